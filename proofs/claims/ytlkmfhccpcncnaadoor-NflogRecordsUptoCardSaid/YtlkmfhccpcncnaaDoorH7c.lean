import Derived.Test.YtlkmfhccpcncnaaDoorH7b
set_option linter.unusedVariables false
set_option linter.unusedSimpArgs false
set_option maxRecDepth 100000
namespace Go.Proofs.YtlkmfhccpcncnaaDoor
open Go.GB
/-! 62 nflog_read  -/
noncomputable def nflog_read (a0 : List Int) : Option (S23 × Bool) :=
  Option.bind (vint_Text a0 0 64) fun (y3 : ByteArray × Int × Int) =>
  Option.bind (vint_Text a0 y3.2.1 65536) fun (y5 : ByteArray × Int × Int) =>
  Option.bind (vint_I a0 y5.2.1) fun (y7 : Int × Int × Int) =>
  bif (!((y3.2.2 == 0) && ((y5.2.2 == 0) && (y7.2.2 == 0)))) then
  (some ((⟨y3.1, y5.1, y7.1, [], []⟩ : S23), false))
  else
  (Option.bind (nflog_lists a0 y7.2.1) fun (y14 : (List (List S79)) × Int × Bool) =>
    bif (!y14.2.2) then
    (some ((⟨y3.1, y5.1, y7.1, y14.1, []⟩ : S23), false))
    else
    (Option.bind (nflog_lists a0 y14.2.1) fun (y29 : (List (List S79)) × Int × Bool) =>
      Option.bind (bif y29.2.2 then
        (some (y29.2.1 == (a0.length : Int)))
        else
        (some false)) fun (j38 : Bool) =>
      some ((⟨y3.1, y5.1, y7.1, y14.1, y29.1⟩ : S23), j38)))
theorem nflog_read_walk {a0 : List Int} {A0_0 : Option Addr} {n0_0 : Nat} {I : Imm} {r : S23 × Bool} (hG : Gl I)  (hf0_0 : RepS (Kd.int .u8) I A0_0 n0_0 a0) (hr : nflog_read a0 = some r) (L : Own) :
    CallsTo Tryd.prog 62 #[.slice A0_0 a0.length n0_0] I L (fun v I' L' => ∃ A0_3 c0_3 A0_4 c0_4, RepS (Kd.sl kS79) I' A0_3 c0_3 r.1.f3 ∧ RepS (Kd.sl kS79) I' A0_4 c0_4 r.1.f4 ∧ v = .tuple #[.agg #[.string r.1.f0, .string r.1.f1, .int .i64 r.1.f2, .slice A0_3 r.1.f3.length c0_3, .slice A0_4 r.1.f4.length c0_4], .bool r.2] ∧ L = L') := by
  unfold nflog_read at hr
  refine callsTo_body (N := 63) Tryd.func62 (by kernel_rfl) (by kernel_rfl) (by kernel_rfl) ?_
  refine gk_pick [0] (K' := [(0, .slice A0_0 a0.length n0_0)]) (by kernel_rfl) ?_
  refine gk_seq (by kernel_rfl) ?_
  refine gk_region (by kernel_rfl) ?_
  refine gl_alloc (T' := 24) (cs := #[.string (⟨#[]⟩ : ByteArray), .string (⟨#[]⟩ : ByteArray), .int .i64 0, .slice none 0 0, .slice none 0 0]) (by kernel_rfl) (by kernel_rfl) (by kernel_rfl) (fun g1 => ?_)
  refine gl_pure 1 [0, 2] (K' := [(0, .slice A0_0 a0.length n0_0), (2, .pointer (some ⟨g1, 0, none⟩))]) (by kernel_rfl) ?_
  refine gl_atE (by kernel_rfl) ?_
  refine ge_seq ?_
  refine gk_seq (by kernel_rfl) ?_
  refine gk_region (by kernel_rfl) ?_
  refine gl_pure 1 [0, 2] (K' := [(0, .slice A0_0 a0.length n0_0), (2, .pointer (some ⟨g1, 0, none⟩))]) (by kernel_rfl) ?_
  refine gl_atE (by kernel_rfl) ?_
  refine ge_seq ?_
  refine gk_seq (by kernel_rfl) ?_
  refine gk_region (by kernel_rfl) ?_
  refine gl_alloc (T' := 138) (cs := #[.int .i64 0, .int .i64 0, .int .i64 0]) (by kernel_rfl) (by kernel_rfl) (by kernel_rfl) (fun g2 => ?_)
  refine gl_atE (by kernel_rfl) ?_
  refine ge_seq ?_
  refine gk_seq (by kernel_rfl) ?_
  refine gk_region (by kernel_rfl) ?_
  refine gl_pure 1 [0, 2, 5, 7] (K' := [(0, .slice A0_0 a0.length n0_0), (2, .pointer (some ⟨g1, 0, none⟩)), (5, .pointer (some ⟨g2, 0, none⟩)), (7, .slice A0_0 a0.length n0_0)]) (by kernel_rfl) ?_
  obtain ⟨y3, hx4, hr⟩ := bind_some hr
  refine gl_callQ (by kernel_rfl) (vint_Text_walk (r := y3) hG hf0_0 hx4 _) ?_
  refine gl_pure 5 [0, 2, 5, 9, 10, 11, 12] (K' := [(0, .slice A0_0 a0.length n0_0), (2, .pointer (some ⟨g1, 0, none⟩)), (5, .pointer (some ⟨g2, 0, none⟩)), (9, .string y3.1), (10, .int .i64 y3.2.1), (11, .int .i64 y3.2.2), (12, .pointer (some ⟨g1, 0, none⟩))]) (by kernel_rfl) ?_
  refine gl_storeB (T' := 9) (xp := (.tmp 12)) (xv := (.tmp 9)) (v := .string y3.1) (g := g1) (off := 0) (cs := #[.string (⟨#[]⟩ : ByteArray), .string (⟨#[]⟩ : ByteArray), .int .i64 0, .slice none 0 0, .slice none 0 0]) (cs' := #[.string y3.1, .string (⟨#[]⟩ : ByteArray), .int .i64 0, .slice none 0 0, .slice none 0 0]) (by kernel_rfl) (by kernel_rfl) (by kernel_rfl) (by kernel_rfl) (by kernel_rfl) (Upd.one _ (Upd.set _ _ _ _)) ?_ (by kernel_rfl)
  refine gl_pure 2 [0, 2, 4, 5, 11, 13] (K' := [(0, .slice A0_0 a0.length n0_0), (2, .pointer (some ⟨g1, 0, none⟩)), (4, .int .i64 y3.2.1), (5, .pointer (some ⟨g2, 0, none⟩)), (11, .int .i64 y3.2.2), (13, .pointer (some ⟨g2, 0, none⟩))]) (by kernel_rfl) ?_
  refine gl_storeB (T' := 28) (xp := (.tmp 13)) (xv := (.tmp 11)) (v := .int .i64 y3.2.2) (g := g2) (off := 0) (cs := #[.int .i64 0, .int .i64 0, .int .i64 0]) (cs' := #[.int .i64 y3.2.2, .int .i64 0, .int .i64 0]) (by kernel_rfl) (by kernel_rfl) (by kernel_rfl) (by kernel_rfl) (by kernel_rfl) (Upd.set _ _ _ _) ?_ (by kernel_rfl)
  refine gl_atE (by kernel_rfl) ?_
  refine ge_seq ?_
  refine gk_seq (by kernel_rfl) ?_
  refine gk_region (by kernel_rfl) ?_
  refine gl_pure 2 [0, 2, 5, 15, 16] (K' := [(0, .slice A0_0 a0.length n0_0), (2, .pointer (some ⟨g1, 0, none⟩)), (5, .pointer (some ⟨g2, 0, none⟩)), (15, .slice A0_0 a0.length n0_0), (16, .int .i64 y3.2.1)]) (by kernel_rfl) ?_
  obtain ⟨y5, hx6, hr⟩ := bind_some hr
  refine gl_callQ (by kernel_rfl) (vint_Text_walk (r := y5) hG hf0_0 hx6 _) ?_
  refine gl_pure 5 [0, 2, 5, 18, 19, 20, 21] (K' := [(0, .slice A0_0 a0.length n0_0), (2, .pointer (some ⟨g1, 0, none⟩)), (5, .pointer (some ⟨g2, 0, none⟩)), (18, .string y5.1), (19, .int .i64 y5.2.1), (20, .int .i64 y5.2.2), (21, .pointer (some ⟨g1, 1, none⟩))]) (by kernel_rfl) ?_
  refine gl_storeB (T' := 9) (xp := (.tmp 21)) (xv := (.tmp 18)) (v := .string y5.1) (g := g1) (off := 1) (cs := #[.string y3.1, .string (⟨#[]⟩ : ByteArray), .int .i64 0, .slice none 0 0, .slice none 0 0]) (cs' := #[.string y3.1, .string y5.1, .int .i64 0, .slice none 0 0, .slice none 0 0]) (by kernel_rfl) (by kernel_rfl) (by kernel_rfl) (by kernel_rfl) (by kernel_rfl) (Upd.one _ (Upd.set _ _ _ _)) ?_ (by kernel_rfl)
  refine gl_pure 2 [0, 2, 4, 5, 20, 22] (K' := [(0, .slice A0_0 a0.length n0_0), (2, .pointer (some ⟨g1, 0, none⟩)), (4, .int .i64 y5.2.1), (5, .pointer (some ⟨g2, 0, none⟩)), (20, .int .i64 y5.2.2), (22, .pointer (some ⟨g2, 1, none⟩))]) (by kernel_rfl) ?_
  refine gl_storeB (T' := 28) (xp := (.tmp 22)) (xv := (.tmp 20)) (v := .int .i64 y5.2.2) (g := g2) (off := 1) (cs := #[.int .i64 y3.2.2, .int .i64 0, .int .i64 0]) (cs' := #[.int .i64 y3.2.2, .int .i64 y5.2.2, .int .i64 0]) (by kernel_rfl) (by kernel_rfl) (by kernel_rfl) (by kernel_rfl) (by kernel_rfl) (Upd.set _ _ _ _) ?_ (by kernel_rfl)
  refine gl_atE (by kernel_rfl) ?_
  refine ge_seq ?_
  refine gk_seq (by kernel_rfl) ?_
  refine gk_region (by kernel_rfl) ?_
  refine gl_pure 2 [0, 2, 5, 24, 25] (K' := [(0, .slice A0_0 a0.length n0_0), (2, .pointer (some ⟨g1, 0, none⟩)), (5, .pointer (some ⟨g2, 0, none⟩)), (24, .slice A0_0 a0.length n0_0), (25, .int .i64 y5.2.1)]) (by kernel_rfl) ?_
  obtain ⟨y7, hx8, hr⟩ := bind_some hr
  refine gl_callQ (by kernel_rfl) (vint_I_walk (r := y7) hf0_0 hx8 _) ?_
  refine gl_pure 5 [0, 2, 5, 27, 28, 29, 30] (K' := [(0, .slice A0_0 a0.length n0_0), (2, .pointer (some ⟨g1, 0, none⟩)), (5, .pointer (some ⟨g2, 0, none⟩)), (27, .int .i64 y7.1), (28, .int .i64 y7.2.1), (29, .int .i64 y7.2.2), (30, .pointer (some ⟨g1, 2, none⟩))]) (by kernel_rfl) ?_
  refine gl_storeB (T' := 2) (xp := (.tmp 30)) (xv := (.tmp 27)) (v := .int .i64 y7.1) (g := g1) (off := 2) (cs := #[.string y3.1, .string y5.1, .int .i64 0, .slice none 0 0, .slice none 0 0]) (cs' := #[.string y3.1, .string y5.1, .int .i64 y7.1, .slice none 0 0, .slice none 0 0]) (by kernel_rfl) (by kernel_rfl) (by kernel_rfl) (by kernel_rfl) (by kernel_rfl) (Upd.one _ (Upd.set _ _ _ _)) ?_ (by kernel_rfl)
  refine gl_pure 2 [0, 2, 4, 5, 29, 31] (K' := [(0, .slice A0_0 a0.length n0_0), (2, .pointer (some ⟨g1, 0, none⟩)), (4, .int .i64 y7.2.1), (5, .pointer (some ⟨g2, 0, none⟩)), (29, .int .i64 y7.2.2), (31, .pointer (some ⟨g2, 2, none⟩))]) (by kernel_rfl) ?_
  refine gl_storeB (T' := 28) (xp := (.tmp 31)) (xv := (.tmp 29)) (v := .int .i64 y7.2.2) (g := g2) (off := 2) (cs := #[.int .i64 y3.2.2, .int .i64 y5.2.2, .int .i64 0]) (cs' := #[.int .i64 y3.2.2, .int .i64 y5.2.2, .int .i64 y7.2.2]) (by kernel_rfl) (by kernel_rfl) (by kernel_rfl) (by kernel_rfl) (by kernel_rfl) (Upd.set _ _ _ _) ?_ (by kernel_rfl)
  refine gl_atE (by kernel_rfl) ?_
  refine ge_seq ?_
  refine gk_seq (by kernel_rfl) ?_
  refine gk_seq (by kernel_rfl) ?_
  refine gk_region (by kernel_rfl) ?_
  refine gl_loadB (T' := 138) (xp := (.tmp 5)) (v := .agg #[.int .i64 y3.2.2, .int .i64 y5.2.2, .int .i64 y7.2.2]) (g := g2) (off := 0) (cs := #[.int .i64 y3.2.2, .int .i64 y5.2.2, .int .i64 y7.2.2]) (e := 138) (fz := (0, 0)) (by kernel_rfl) (by kernel_rfl) (by kernel_rfl) List.mem_cons_self (by kernel_rfl) ?_
  refine gl_pure 1 [0, 2, 4, 32, 33] (K' := [(0, .slice A0_0 a0.length n0_0), (2, .pointer (some ⟨g1, 0, none⟩)), (4, .int .i64 y7.2.1), (32, .agg #[.int .i64 y3.2.2, .int .i64 y5.2.2, .int .i64 y7.2.2]), (33, .agg #[.int .i64 0, .int .i64 0, .int .i64 0])]) (by kernel_rfl) ?_
  refine gl_eqArr (cx := #[.int .i64 y3.2.2, .int .i64 y5.2.2, .int .i64 y7.2.2]) (cy := #[.int .i64 0, .int .i64 0, .int .i64 0]) (neg := true) (t := 138) (t' := 138) (e := 28) (n := 3) (x := (.tmp 32)) (y := (.tmp 33)) (b := ((y3.2.2 == 0) && ((y5.2.2 == 0) && (y7.2.2 == 0)))) (by kernel_rfl) (by kernel_rfl) (by kernel_rfl) (by kernel_rfl) (by kernel_rfl) (by kernel_rfl) ?_
  refine gl_atE (by kernel_rfl) ?_
  refine ge_seq ?_
  refine gk_cond (b := (!((y3.2.2 == 0) && ((y5.2.2 == 0) && (y7.2.2 == 0))))) (by kernel_rfl) (by kernel_rfl) (fun hc9 => ?_) (fun hc9 => ?_)
  · have hr := cond_t hc9 hr
    refine gk_seq (by kernel_rfl) ?_
    refine gk_region (by kernel_rfl) ?_
    refine gl_loadB (T' := 24) (xp := (.tmp 2)) (v := .agg #[.string y3.1, .string y5.1, .int .i64 y7.1, .slice none 0 0, .slice none 0 0]) (g := g1) (off := 0) (cs := #[.string y3.1, .string y5.1, .int .i64 y7.1, .slice none 0 0, .slice none 0 0]) (e := 24) (fz := (0, 0)) (by kernel_rfl) (by kernel_rfl) (by kernel_rfl) (List.mem_cons_of_mem _ List.mem_cons_self) (by kernel_rfl) ?_
    refine gl_storeB (T' := 24) (xp := (.tmp 2)) (xv := (.tmp 35)) (v := .agg #[.string y3.1, .string y5.1, .int .i64 y7.1, .slice none 0 0, .slice none 0 0]) (g := g1) (off := 0) (cs := #[.string y3.1, .string y5.1, .int .i64 y7.1, .slice none 0 0, .slice none 0 0]) (cs' := #[.string y3.1, .string y5.1, .int .i64 y7.1, .slice none 0 0, .slice none 0 0]) (by kernel_rfl) (by kernel_rfl) (by kernel_rfl) (by kernel_rfl) (by kernel_rfl) (Upd.one _ (Upd.set _ _ _ _)) ?_ (by kernel_rfl)
    refine gl_pure 1 [2, 3] (K' := [(2, .pointer (some ⟨g1, 0, none⟩)), (3, .bool false)]) (by kernel_rfl) ?_
    refine gl_atE (by kernel_rfl) ?_
    refine ge_seq ?_
    refine gk_rest (Tk.step (Upd.one _ (Upd.rm1 _ _)) (Tk.nil _)) (fun J10 hJ11 hC12 => ?_)
    have hf13 := hC12.left.blk
    refine gk_reord (D := L) (Reord.skip (Reord.refl _)) ?_
    refine gk_ret (by kernel_rfl) ?_
    refine ge_seq_ret ?_
    obtain rfl := some_inj hr
    exact ge_result trivial (ResOk.cell (v := .agg #[.string y3.1, .string y5.1, .int .i64 y7.1, .slice none 0 0, .slice none 0 0]) (by kernel_rfl) (loadR_agg (cs := [.string y3.1, .string y5.1, .int .i64 y7.1, .slice none 0 0, .slice none 0 0]) (by kernel_rfl) (RunAt.take hf13 5)) (ResOk.tmp (by kernel_rfl) ResOk.nil)) hJ11 ⟨none, 0, none, 0, RepS.nil _ _, RepS.nil _ _, rfl, rfl⟩
  · have hr := cond_f hc9 hr
    refine gk_skip (by kernel_rfl) ?_
    refine ge_seq ?_
    refine gk_seq (by kernel_rfl) ?_
    refine gk_seq (by kernel_rfl) ?_
    refine gk_region (by kernel_rfl) ?_
    refine gl_pure 2 [0, 2, 37, 38] (K' := [(0, .slice A0_0 a0.length n0_0), (2, .pointer (some ⟨g1, 0, none⟩)), (37, .slice A0_0 a0.length n0_0), (38, .int .i64 y7.2.1)]) (by kernel_rfl) ?_
    obtain ⟨y14, hx15, hr⟩ := bind_some hr
    refine gl_call (by kernel_rfl) (nflog_lists_walk (r := y14) hG hf0_0 hx15 _) ?_
    rintro v I16 L17 hI18 ⟨A19, c20, C21, hO22, rfl, rfl⟩
    refine gl_pure 5 [0, 2, 40, 41, 42, 43] (K' := [(0, .slice A0_0 a0.length n0_0), (2, .pointer (some ⟨g1, 0, none⟩)), (40, .slice A19 y14.1.length c20), (41, .int .i64 y14.2.1), (42, .bool y14.2.2), (43, .pointer (some ⟨g1, 3, none⟩))]) (by kernel_rfl) ?_
    refine gl_storeB (T' := 22) (xp := (.tmp 43)) (xv := (.tmp 40)) (v := .slice A19 y14.1.length c20) (g := g1) (off := 3) (cs := #[.string y3.1, .string y5.1, .int .i64 y7.1, .slice none 0 0, .slice none 0 0]) (cs' := #[.string y3.1, .string y5.1, .int .i64 y7.1, .slice A19 y14.1.length c20, .slice none 0 0]) (by kernel_rfl) (by kernel_rfl) (by kernel_rfl) (by kernel_rfl) (by kernel_rfl) (Upd.app _ (Upd.one _ (Upd.set _ _ _ _))) ?_ (by kernel_rfl)
    refine gl_pure 2 [0, 2, 3, 4] (K' := [(0, .slice A0_0 a0.length n0_0), (2, .pointer (some ⟨g1, 0, none⟩)), (3, .bool y14.2.2), (4, .int .i64 y14.2.1)]) (by kernel_rfl) ?_
    refine gl_atE (by kernel_rfl) ?_
    refine ge_seq ?_
    refine gk_seq (by kernel_rfl) ?_
    refine gk_region (by kernel_rfl) ?_
    refine gl_pure 2 [0, 2, 4, 45] (K' := [(0, .slice A0_0 a0.length n0_0), (2, .pointer (some ⟨g1, 0, none⟩)), (4, .int .i64 y14.2.1), (45, .bool (!y14.2.2))]) (by kernel_rfl) ?_
    refine gl_atE (by kernel_rfl) ?_
    refine ge_seq ?_
    refine gk_cond (b := (!y14.2.2)) (by kernel_rfl) (by kernel_rfl) (fun hc23 => ?_) (fun hc23 => ?_)
    · have hr := cond_t hc23 hr
      refine gk_seq (by kernel_rfl) ?_
      refine gk_region (by kernel_rfl) ?_
      refine gl_loadB (T' := 24) (xp := (.tmp 2)) (v := .agg #[.string y3.1, .string y5.1, .int .i64 y7.1, .slice A19 y14.1.length c20, .slice none 0 0]) (g := g1) (off := 0) (cs := #[.string y3.1, .string y5.1, .int .i64 y7.1, .slice A19 y14.1.length c20, .slice none 0 0]) (e := 24) (fz := (0, 0)) (by kernel_rfl) (by kernel_rfl) (by kernel_rfl) (List.mem_append_right _ (List.mem_cons_of_mem _ List.mem_cons_self)) (by kernel_rfl) ?_
      refine gl_storeB (T' := 24) (xp := (.tmp 2)) (xv := (.tmp 46)) (v := .agg #[.string y3.1, .string y5.1, .int .i64 y7.1, .slice A19 y14.1.length c20, .slice none 0 0]) (g := g1) (off := 0) (cs := #[.string y3.1, .string y5.1, .int .i64 y7.1, .slice A19 y14.1.length c20, .slice none 0 0]) (cs' := #[.string y3.1, .string y5.1, .int .i64 y7.1, .slice A19 y14.1.length c20, .slice none 0 0]) (by kernel_rfl) (by kernel_rfl) (by kernel_rfl) (by kernel_rfl) (by kernel_rfl) (Upd.app _ (Upd.one _ (Upd.set _ _ _ _))) ?_ (by kernel_rfl)
      refine gl_pure 1 [2, 3] (K' := [(2, .pointer (some ⟨g1, 0, none⟩)), (3, .bool false)]) (by kernel_rfl) ?_
      refine gl_atE (by kernel_rfl) ?_
      refine ge_seq ?_
      refine gk_rest (Tk.step (Upd.rmC _ _) (Tk.step (Upd.one _ (Upd.rm1 _ _)) (Tk.nil _))) (fun J24 hJ25 hC26 => ?_)
      have hf27 := (OwnS.rest hO22 hJ25 hC26.left)
      have hf28 := hC26.right.left.blk
      refine gk_reord (D := L) (Reord.skip (Reord.refl _)) ?_
      refine gk_ret (by kernel_rfl) ?_
      refine ge_seq_ret ?_
      obtain rfl := some_inj hr
      exact ge_result trivial (ResOk.cell (v := .agg #[.string y3.1, .string y5.1, .int .i64 y7.1, .slice A19 y14.1.length c20, .slice none 0 0]) (by kernel_rfl) (loadR_agg (cs := [.string y3.1, .string y5.1, .int .i64 y7.1, .slice A19 y14.1.length c20, .slice none 0 0]) (by kernel_rfl) (RunAt.take hf28 5)) (ResOk.tmp (by kernel_rfl) ResOk.nil)) (Imm.trans hI18 hJ25) ⟨A19, c20, none, 0, hf27, RepS.nil _ _, rfl, rfl⟩
    · have hr := cond_f hc23 hr
      refine gk_skip (by kernel_rfl) ?_
      refine ge_seq ?_
      refine gk_seq (by kernel_rfl) ?_
      refine gk_region (by kernel_rfl) ?_
      refine gl_pure 2 [0, 2, 48, 49] (K' := [(0, .slice A0_0 a0.length n0_0), (2, .pointer (some ⟨g1, 0, none⟩)), (48, .slice A0_0 a0.length n0_0), (49, .int .i64 y14.2.1)]) (by kernel_rfl) ?_
      obtain ⟨y29, hx30, hr⟩ := bind_some hr
      refine gl_call (by kernel_rfl) (nflog_lists_walk (r := y29) (hG.mono hI18) (hf0_0.mono hI18) hx30 _) ?_
      rintro v I31 L32 hI33 ⟨A34, c35, C36, hO37, rfl, rfl⟩
      refine gl_pure 5 [0, 2, 51, 52, 53, 54] (K' := [(0, .slice A0_0 a0.length n0_0), (2, .pointer (some ⟨g1, 0, none⟩)), (51, .slice A34 y29.1.length c35), (52, .int .i64 y29.2.1), (53, .bool y29.2.2), (54, .pointer (some ⟨g1, 4, none⟩))]) (by kernel_rfl) ?_
      refine gl_storeB (T' := 22) (xp := (.tmp 54)) (xv := (.tmp 51)) (v := .slice A34 y29.1.length c35) (g := g1) (off := 4) (cs := #[.string y3.1, .string y5.1, .int .i64 y7.1, .slice A19 y14.1.length c20, .slice none 0 0]) (cs' := #[.string y3.1, .string y5.1, .int .i64 y7.1, .slice A19 y14.1.length c20, .slice A34 y29.1.length c35]) (by kernel_rfl) (by kernel_rfl) (by kernel_rfl) (by kernel_rfl) (by kernel_rfl) (Upd.app _ (Upd.app _ (Upd.one _ (Upd.set _ _ _ _)))) ?_ (by kernel_rfl)
      refine gl_pure 2 [0, 2, 3, 4] (K' := [(0, .slice A0_0 a0.length n0_0), (2, .pointer (some ⟨g1, 0, none⟩)), (3, .bool y29.2.2), (4, .int .i64 y29.2.1)]) (by kernel_rfl) ?_
      refine gl_atE (by kernel_rfl) ?_
      refine ge_seq ?_
      refine gk_seq (by kernel_rfl) ?_
      obtain ⟨j38, hj39, hr⟩ := bind_some hr
      refine gk_join (fun t I' L' => I31 ≤ I' ∧ C36 ++ (C21 ++ ((g1, .cells #[.string y3.1, .string y5.1, .int .i64 y7.1, .slice A19 y14.1.length c20, .slice A34 y29.1.length c35] 24) :: L)) = L' ∧ Knows 63 [(2, .pointer (some ⟨g1, 0, none⟩)), (3, .bool j38)] t) ?_ ?_
      · refine gk_region (by kernel_rfl) ?_
        refine gl_loadB (T' := 24) (xp := (.tmp 2)) (v := .agg #[.string y3.1, .string y5.1, .int .i64 y7.1, .slice A19 y14.1.length c20, .slice A34 y29.1.length c35]) (g := g1) (off := 0) (cs := #[.string y3.1, .string y5.1, .int .i64 y7.1, .slice A19 y14.1.length c20, .slice A34 y29.1.length c35]) (e := 24) (fz := (0, 0)) (by kernel_rfl) (by kernel_rfl) (by kernel_rfl) (List.mem_append_right _ (List.mem_append_right _ (List.mem_cons_of_mem _ List.mem_cons_self))) (by kernel_rfl) ?_
        refine gl_pure 2 [0, 2, 4, 55, 57] (K' := [(0, .slice A0_0 a0.length n0_0), (2, .pointer (some ⟨g1, 0, none⟩)), (4, .int .i64 y29.2.1), (55, .agg #[.string y3.1, .string y5.1, .int .i64 y7.1, .slice A19 y14.1.length c20, .slice A34 y29.1.length c35]), (57, .bool y29.2.2)]) (by kernel_rfl) ?_
        refine gl_case 57 (b := y29.2.2) (by kernel_rfl) (fun hc43 => ?_) (fun hc43 => ?_)
        · have hj39 := cond_t hc43 hj39
          refine gl_pure 5 [2, 55, 62] (K' := [(2, .pointer (some ⟨g1, 0, none⟩)), (55, .agg #[.string y3.1, .string y5.1, .int .i64 y7.1, .slice A19 y14.1.length c20, .slice A34 y29.1.length c35]), (62, .bool (y29.2.1 == (a0.length : Int)))]) (by kernel_rfl) ?_
          refine gl_storeB (T' := 24) (xp := (.tmp 2)) (xv := (.tmp 55)) (v := .agg #[.string y3.1, .string y5.1, .int .i64 y7.1, .slice A19 y14.1.length c20, .slice A34 y29.1.length c35]) (g := g1) (off := 0) (cs := #[.string y3.1, .string y5.1, .int .i64 y7.1, .slice A19 y14.1.length c20, .slice A34 y29.1.length c35]) (cs' := #[.string y3.1, .string y5.1, .int .i64 y7.1, .slice A19 y14.1.length c20, .slice A34 y29.1.length c35]) (by kernel_rfl) (by kernel_rfl) (by kernel_rfl) (by kernel_rfl) (by kernel_rfl) (Upd.app _ (Upd.app _ (Upd.one _ (Upd.set _ _ _ _)))) ?_ (by kernel_rfl)
          refine gl_pure 1 [2, 3] (K' := [(2, .pointer (some ⟨g1, 0, none⟩)), (3, .bool (y29.2.1 == (a0.length : Int)))]) (by kernel_rfl) ?_
          refine gl_reord (D := C36 ++ (C21 ++ ((g1, .cells #[.string y3.1, .string y5.1, .int .i64 y7.1, .slice A19 y14.1.length c20, .slice A34 y29.1.length c35] 24) :: L))) (Reord.step (Upd.rmC _ _) (Reord.step (Upd.rmC _ _) (Reord.step1 (Upd.one _ (Upd.rm1 _ _)) (Reord.skip (Reord.refl _))))) ?_
          refine gl_atE (by kernel_rfl) ?_
          obtain rfl := some_inj hj39
          exact ge_mid fun t ht => ⟨(Imm.refl _), rfl, ht.pick (l := [2, 3]) (by kernel_rfl)⟩
        · have hj39 := cond_f hc43 hj39
          refine gl_pure 5 [2, 55, 62] (K' := [(2, .pointer (some ⟨g1, 0, none⟩)), (55, .agg #[.string y3.1, .string y5.1, .int .i64 y7.1, .slice A19 y14.1.length c20, .slice A34 y29.1.length c35]), (62, .bool false)]) (by kernel_rfl) ?_
          refine gl_storeB (T' := 24) (xp := (.tmp 2)) (xv := (.tmp 55)) (v := .agg #[.string y3.1, .string y5.1, .int .i64 y7.1, .slice A19 y14.1.length c20, .slice A34 y29.1.length c35]) (g := g1) (off := 0) (cs := #[.string y3.1, .string y5.1, .int .i64 y7.1, .slice A19 y14.1.length c20, .slice A34 y29.1.length c35]) (cs' := #[.string y3.1, .string y5.1, .int .i64 y7.1, .slice A19 y14.1.length c20, .slice A34 y29.1.length c35]) (by kernel_rfl) (by kernel_rfl) (by kernel_rfl) (by kernel_rfl) (by kernel_rfl) (Upd.app _ (Upd.app _ (Upd.one _ (Upd.set _ _ _ _)))) ?_ (by kernel_rfl)
          refine gl_pure 1 [2, 3] (K' := [(2, .pointer (some ⟨g1, 0, none⟩)), (3, .bool false)]) (by kernel_rfl) ?_
          refine gl_reord (D := C36 ++ (C21 ++ ((g1, .cells #[.string y3.1, .string y5.1, .int .i64 y7.1, .slice A19 y14.1.length c20, .slice A34 y29.1.length c35] 24) :: L))) (Reord.step (Upd.rmC _ _) (Reord.step (Upd.rmC _ _) (Reord.step1 (Upd.one _ (Upd.rm1 _ _)) (Reord.skip (Reord.refl _))))) ?_
          refine gl_atE (by kernel_rfl) ?_
          obtain rfl := some_inj hj39
          exact ge_mid fun t ht => ⟨(Imm.refl _), rfl, ht.pick (l := [2, 3]) (by kernel_rfl)⟩
      · rintro t I42 L' ⟨hI40, rfl, hK41⟩
        refine ge_at hK41 ?_
        refine ge_seq ?_
        refine gk_rest (Tk.step (Upd.rmC _ _) (Tk.step (Upd.rmC _ _) (Tk.step (Upd.rm1 _ _) (Tk.nil _)))) (fun J44 hJ45 hC46 => ?_)
        have hf47 := (OwnS.rest (hO37.mono hI40) hJ45 hC46.left)
        have hf48 := (OwnS.rest (hO22.mono (Imm.trans hI33 hI40)) hJ45 hC46.right.left)
        have hf49 := hC46.right.right.left.blk
        refine gk_ret (by kernel_rfl) ?_
        obtain rfl := some_inj hr
        exact ge_result trivial (ResOk.cell (v := .agg #[.string y3.1, .string y5.1, .int .i64 y7.1, .slice A19 y14.1.length c20, .slice A34 y29.1.length c35]) (by kernel_rfl) (loadR_agg (cs := [.string y3.1, .string y5.1, .int .i64 y7.1, .slice A19 y14.1.length c20, .slice A34 y29.1.length c35]) (by kernel_rfl) (RunAt.take hf49 5)) (ResOk.tmp (by kernel_rfl) ResOk.nil)) (Imm.trans (Imm.trans (Imm.trans hI18 hI33) hI40) hJ45) ⟨A19, c20, A34, c35, hf48, hf47, rfl, rfl⟩
/-! 27 nflog_Read  -/
noncomputable def nflog_Read (a0 : List Int) : Option (S23 × Int) :=
  Option.bind (nflog_read a0) fun (y2 : S23 × Bool) =>
  Option.bind (bif (!y2.2) then
    (some true)
    else
    (Option.bind (nflog_Right y2.1) fun (y20 : Int) =>
      some (y20 != 0))) fun (j14 : Bool) =>
  bif j14 then
  (some ((⟨(⟨#[]⟩ : ByteArray), (⟨#[]⟩ : ByteArray), 0, [], []⟩ : S23), 3))
  else
  (some (y2.1, 0))
theorem nflog_Read_walk {a0 : List Int} {A0_0 : Option Addr} {n0_0 : Nat} {I : Imm} {r : S23 × Int} (hG : Gl I)  (hf0_0 : RepS (Kd.int .u8) I A0_0 n0_0 a0) (hr : nflog_Read a0 = some r) (L : Own) :
    CallsTo Tryd.prog 27 #[.slice A0_0 a0.length n0_0] I L (fun v I' L' => ∃ A0_3 c0_3 A0_4 c0_4, RepS (Kd.sl kS79) I' A0_3 c0_3 r.1.f3 ∧ RepS (Kd.sl kS79) I' A0_4 c0_4 r.1.f4 ∧ v = .tuple #[.agg #[.string r.1.f0, .string r.1.f1, .int .i64 r.1.f2, .slice A0_3 r.1.f3.length c0_3, .slice A0_4 r.1.f4.length c0_4], .int .i64 r.2] ∧ L = L') := by
  unfold nflog_Read at hr
  refine callsTo_body (N := 20) Tryd.func27 (by kernel_rfl) (by kernel_rfl) (by kernel_rfl) ?_
  refine gk_pick [0] (K' := [(0, .slice A0_0 a0.length n0_0)]) (by kernel_rfl) ?_
  refine gk_seq (by kernel_rfl) ?_
  refine gk_region (by kernel_rfl) ?_
  refine gl_alloc (T' := 24) (cs := #[.string (⟨#[]⟩ : ByteArray), .string (⟨#[]⟩ : ByteArray), .int .i64 0, .slice none 0 0, .slice none 0 0]) (by kernel_rfl) (by kernel_rfl) (by kernel_rfl) (fun g1 => ?_)
  refine gl_pure 1 [0, 2] (K' := [(0, .slice A0_0 a0.length n0_0), (2, .pointer (some ⟨g1, 0, none⟩))]) (by kernel_rfl) ?_
  refine gl_atE (by kernel_rfl) ?_
  refine ge_seq ?_
  refine gk_seq (by kernel_rfl) ?_
  refine gk_region (by kernel_rfl) ?_
  refine gl_pure 1 [2, 7] (K' := [(2, .pointer (some ⟨g1, 0, none⟩)), (7, .slice A0_0 a0.length n0_0)]) (by kernel_rfl) ?_
  obtain ⟨y2, hx3, hr⟩ := bind_some hr
  refine gl_call (by kernel_rfl) (nflog_read_walk (r := y2) hG hf0_0 hx3 _) ?_
  rintro v I4 L5 hI6 ⟨A7, c8, A9, c10, hf11, hf12, rfl, rfl⟩
  refine gl_pure 3 [2, 9, 10] (K' := [(2, .pointer (some ⟨g1, 0, none⟩)), (9, .agg #[.string y2.1.f0, .string y2.1.f1, .int .i64 y2.1.f2, .slice A7 y2.1.f3.length c8, .slice A9 y2.1.f4.length c10]), (10, .bool y2.2)]) (by kernel_rfl) ?_
  refine gl_alloc (T' := 24) (cs := #[.string (⟨#[]⟩ : ByteArray), .string (⟨#[]⟩ : ByteArray), .int .i64 0, .slice none 0 0, .slice none 0 0]) (by kernel_rfl) (by kernel_rfl) (by kernel_rfl) (fun g13 => ?_)
  refine gl_storeB (T' := 24) (xp := (.tmp 4)) (xv := (.tmp 9)) (v := .agg #[.string y2.1.f0, .string y2.1.f1, .int .i64 y2.1.f2, .slice A7 y2.1.f3.length c8, .slice A9 y2.1.f4.length c10]) (g := g13) (off := 0) (cs := #[.string (⟨#[]⟩ : ByteArray), .string (⟨#[]⟩ : ByteArray), .int .i64 0, .slice none 0 0, .slice none 0 0]) (cs' := #[.string y2.1.f0, .string y2.1.f1, .int .i64 y2.1.f2, .slice A7 y2.1.f3.length c8, .slice A9 y2.1.f4.length c10]) (by kernel_rfl) (by kernel_rfl) (by kernel_rfl) (by kernel_rfl) (by kernel_rfl) (Upd.set _ _ _ _) ?_ (by kernel_rfl)
  refine gl_pure 1 [2, 4, 5] (K' := [(2, .pointer (some ⟨g1, 0, none⟩)), (4, .pointer (some ⟨g13, 0, none⟩)), (5, .bool y2.2)]) (by kernel_rfl) ?_
  refine gl_atE (by kernel_rfl) ?_
  refine ge_seq ?_
  refine gk_seq (by kernel_rfl) ?_
  refine gk_seq (by kernel_rfl) ?_
  obtain ⟨j14, hj15, hr⟩ := bind_some hr
  refine gk_join (fun t I' L' => I4 ≤ I' ∧ (g13, .cells #[.string y2.1.f0, .string y2.1.f1, .int .i64 y2.1.f2, .slice A7 y2.1.f3.length c8, .slice A9 y2.1.f4.length c10] 24) :: ((g1, .cells #[.string (⟨#[]⟩ : ByteArray), .string (⟨#[]⟩ : ByteArray), .int .i64 0, .slice none 0 0, .slice none 0 0] 24) :: L) = L' ∧ Knows 20 [(2, .pointer (some ⟨g1, 0, none⟩)), (4, .pointer (some ⟨g13, 0, none⟩)), (17, .bool j14)] t) ?_ ?_
  · refine gk_region (by kernel_rfl) ?_
    refine gl_pure 3 [2, 4, 13] (K' := [(2, .pointer (some ⟨g1, 0, none⟩)), (4, .pointer (some ⟨g13, 0, none⟩)), (13, .bool (!y2.2))]) (by kernel_rfl) ?_
    refine gl_case 13 (b := (!y2.2)) (by kernel_rfl) (fun hc19 => ?_) (fun hc19 => ?_)
    · have hj15 := cond_t hc19 hj15
      refine gl_pure 4 [2, 4, 17] (K' := [(2, .pointer (some ⟨g1, 0, none⟩)), (4, .pointer (some ⟨g13, 0, none⟩)), (17, .bool true)]) (by kernel_rfl) ?_
      refine gl_atE (by kernel_rfl) ?_
      obtain rfl := some_inj hj15
      exact ge_mid fun t ht => ⟨(Imm.refl _), rfl, ht.pick (l := [2, 4, 17]) (by kernel_rfl)⟩
    · have hj15 := cond_f hc19 hj15
      refine gl_loadB (T' := 24) (xp := (.tmp 4)) (v := .agg #[.string y2.1.f0, .string y2.1.f1, .int .i64 y2.1.f2, .slice A7 y2.1.f3.length c8, .slice A9 y2.1.f4.length c10]) (g := g13) (off := 0) (cs := #[.string y2.1.f0, .string y2.1.f1, .int .i64 y2.1.f2, .slice A7 y2.1.f3.length c8, .slice A9 y2.1.f4.length c10]) (e := 24) (fz := (0, 0)) (by kernel_rfl) (by kernel_rfl) (by kernel_rfl) List.mem_cons_self (by kernel_rfl) ?_
      obtain ⟨y20, hx21, hj15⟩ := bind_some hj15
      refine gl_callQ (by kernel_rfl) (nflog_Right_walk (r := y20) (hG.mono hI6) hf11 hf12 hx21 _) ?_
      refine gl_pure 2 [2, 4, 17] (K' := [(2, .pointer (some ⟨g1, 0, none⟩)), (4, .pointer (some ⟨g13, 0, none⟩)), (17, .bool (y20 != 0))]) (by kernel_rfl) ?_
      refine gl_atE (by kernel_rfl) ?_
      obtain rfl := some_inj hj15
      exact ge_mid fun t ht => ⟨(Imm.refl _), rfl, ht.pick (l := [2, 4, 17]) (by kernel_rfl)⟩
  · rintro t I18 L' ⟨hI16, rfl, hK17⟩
    refine ge_at hK17 ?_
    refine ge_seq ?_
    refine gk_cond (b := j14) (by kernel_rfl) (by kernel_rfl) (fun hc22 => ?_) (fun hc22 => ?_)
    · have hr := cond_t hc22 hr
      refine gk_seq (by kernel_rfl) ?_
      refine gk_region (by kernel_rfl) ?_
      refine gl_pure 1 [2, 18] (K' := [(2, .pointer (some ⟨g1, 0, none⟩)), (18, .agg #[.string (⟨#[]⟩ : ByteArray), .string (⟨#[]⟩ : ByteArray), .int .i64 0, .slice none 0 0, .slice none 0 0])]) (by kernel_rfl) ?_
      refine gl_storeB (T' := 24) (xp := (.tmp 2)) (xv := (.tmp 18)) (v := .agg #[.string (⟨#[]⟩ : ByteArray), .string (⟨#[]⟩ : ByteArray), .int .i64 0, .slice none 0 0, .slice none 0 0]) (g := g1) (off := 0) (cs := #[.string (⟨#[]⟩ : ByteArray), .string (⟨#[]⟩ : ByteArray), .int .i64 0, .slice none 0 0, .slice none 0 0]) (cs' := #[.string (⟨#[]⟩ : ByteArray), .string (⟨#[]⟩ : ByteArray), .int .i64 0, .slice none 0 0, .slice none 0 0]) (by kernel_rfl) (by kernel_rfl) (by kernel_rfl) (by kernel_rfl) (by kernel_rfl) (Upd.one _ (Upd.set _ _ _ _)) ?_ (by kernel_rfl)
      refine gl_pure 1 [2, 3] (K' := [(2, .pointer (some ⟨g1, 0, none⟩)), (3, .int .i64 3)]) (by kernel_rfl) ?_
      refine gl_atE (by kernel_rfl) ?_
      refine ge_seq ?_
      refine gk_rest (Tk.step (Upd.one _ (Upd.rm1 _ _)) (Tk.nil _)) (fun J23 hJ24 hC25 => ?_)
      have hf26 := hC25.left.blk
      refine gk_reord (D := L) (Reord.skip (Reord.refl _)) ?_
      refine gk_ret (by kernel_rfl) ?_
      refine ge_seq_ret ?_
      obtain rfl := some_inj hr
      exact ge_result trivial (ResOk.cell (v := .agg #[.string (⟨#[]⟩ : ByteArray), .string (⟨#[]⟩ : ByteArray), .int .i64 0, .slice none 0 0, .slice none 0 0]) (by kernel_rfl) (loadR_agg (cs := [.string (⟨#[]⟩ : ByteArray), .string (⟨#[]⟩ : ByteArray), .int .i64 0, .slice none 0 0, .slice none 0 0]) (by kernel_rfl) (RunAt.take hf26 5)) (ResOk.tmp (by kernel_rfl) ResOk.nil)) (Imm.trans (Imm.trans hI6 hI16) hJ24) ⟨none, 0, none, 0, RepS.nil _ _, RepS.nil _ _, rfl, rfl⟩
    · have hr := cond_f hc22 hr
      refine gk_skip (by kernel_rfl) ?_
      refine ge_seq ?_
      refine gk_seq (by kernel_rfl) ?_
      refine gk_region (by kernel_rfl) ?_
      refine gl_loadB (T' := 24) (xp := (.tmp 4)) (v := .agg #[.string y2.1.f0, .string y2.1.f1, .int .i64 y2.1.f2, .slice A7 y2.1.f3.length c8, .slice A9 y2.1.f4.length c10]) (g := g13) (off := 0) (cs := #[.string y2.1.f0, .string y2.1.f1, .int .i64 y2.1.f2, .slice A7 y2.1.f3.length c8, .slice A9 y2.1.f4.length c10]) (e := 24) (fz := (0, 0)) (by kernel_rfl) (by kernel_rfl) (by kernel_rfl) List.mem_cons_self (by kernel_rfl) ?_
      refine gl_storeB (T' := 24) (xp := (.tmp 2)) (xv := (.tmp 19)) (v := .agg #[.string y2.1.f0, .string y2.1.f1, .int .i64 y2.1.f2, .slice A7 y2.1.f3.length c8, .slice A9 y2.1.f4.length c10]) (g := g1) (off := 0) (cs := #[.string (⟨#[]⟩ : ByteArray), .string (⟨#[]⟩ : ByteArray), .int .i64 0, .slice none 0 0, .slice none 0 0]) (cs' := #[.string y2.1.f0, .string y2.1.f1, .int .i64 y2.1.f2, .slice A7 y2.1.f3.length c8, .slice A9 y2.1.f4.length c10]) (by kernel_rfl) (by kernel_rfl) (by kernel_rfl) (by kernel_rfl) (by kernel_rfl) (Upd.one _ (Upd.set _ _ _ _)) ?_ (by kernel_rfl)
      refine gl_pure 1 [2, 3] (K' := [(2, .pointer (some ⟨g1, 0, none⟩)), (3, .int .i64 0)]) (by kernel_rfl) ?_
      refine gl_atE (by kernel_rfl) ?_
      refine ge_seq ?_
      refine gk_rest (Tk.step (Upd.one _ (Upd.rm1 _ _)) (Tk.nil _)) (fun J27 hJ28 hC29 => ?_)
      have hf30 := hC29.left.blk
      refine gk_reord (D := L) (Reord.skip (Reord.refl _)) ?_
      refine gk_ret (by kernel_rfl) ?_
      obtain rfl := some_inj hr
      exact ge_result trivial (ResOk.cell (v := .agg #[.string y2.1.f0, .string y2.1.f1, .int .i64 y2.1.f2, .slice A7 y2.1.f3.length c8, .slice A9 y2.1.f4.length c10]) (by kernel_rfl) (loadR_agg (cs := [.string y2.1.f0, .string y2.1.f1, .int .i64 y2.1.f2, .slice A7 y2.1.f3.length c8, .slice A9 y2.1.f4.length c10]) (by kernel_rfl) (RunAt.take hf30 5)) (ResOk.tmp (by kernel_rfl) ResOk.nil)) (Imm.trans (Imm.trans hI6 hI16) hJ28) ⟨A7, c8, A9, c10, (hf11.mono (Imm.trans hI16 hJ28)), (hf12.mono (Imm.trans hI16 hJ28)), rfl, rfl⟩
/-! 65 tocsinref01_U  -/
noncomputable def tocsinref01_U_l24 (a0 : List Int) (a1 : Int) : (Int × Int) → Option ((Int × Int) ⊕ ((Unit) ⊕ (Int × Int × Int))) := fun s14 =>
  bif (decide (s14.2 < 10)) then
  (bif (decide (s14.2 ≥ (IntKind.wrap .i64 ((a0.length : Int) - a1)))) then
    (some (Sum.inr (Sum.inr (0, 0, 9))))
    else
    (Option.bind (ix a0 (IntKind.wrap .i64 (a1 + s14.2))) fun (x28 : Int) =>
      bif ((s14.2 == 9) && (decide (x28 > 1))) then
      (some (Sum.inr (Sum.inr (0, 0, 7))))
      else
      (Option.bind (shlx .u64 (IntKind.wrap .u64 (Int.tmod x28 128)) (IntKind.wrap .u64 (IntKind.wrap .i64 (7 * s14.2)))) fun (q43 : Int) =>
        bif (decide (x28 < 128)) then
        (bif ((x28 == 0) && (decide (s14.2 > 0))) then
          (some (Sum.inr (Sum.inr (0, 0, 3))))
          else
          (some (Sum.inr (Sum.inr ((bitOr .u64 s14.1 q43), (IntKind.wrap .i64 ((IntKind.wrap .i64 (a1 + s14.2)) + 1)), 0)))))
        else
        (some (Sum.inl ((bitOr .u64 s14.1 q43), (IntKind.wrap .i64 (s14.2 + 1))))))))
  else
  (some (Sum.inr (Sum.inl ())))
noncomputable def tocsinref01_U (a0 : List Int) (a1 : Int) : Option (Int × Int × Int) :=
  bif ((decide (a1 < 0)) || (decide (a1 > (a0.length : Int)))) then
  (some (0, 0, 1))
  else
  (Option.bind (loopO (tocsinref01_U_l24 a0 a1) (0, 0)) fun (r12 : (Unit) ⊕ (Int × Int × Int)) =>
    match r12 with
    | Sum.inl r20 => some (0, 0, 7)
    | Sum.inr v53 => some v53)
theorem tocsinref01_U_walk {a0 : List Int} {A0_0 : Option Addr} {n0_0 : Nat} {a1 : Int} {I : Imm} {r : Int × Int × Int}  (hf0_0 : RepS (Kd.int .u8) I A0_0 n0_0 a0) (hr : tocsinref01_U a0 a1 = some r) (L : Own) :
    CallsTo Tryd.prog 65 #[.slice A0_0 a0.length n0_0, .int .i64 a1] I L (fun v I' L' => v = .tuple #[.int .u64 r.1, .int .i64 r.2.1, .int .i64 r.2.2] ∧ L = L') := by
  unfold tocsinref01_U at hr
  refine callsTo_body (N := 62) Tryd.func65 (by kernel_rfl) (by kernel_rfl) (by kernel_rfl) ?_
  refine gk_pick [0, 1] (K' := [(0, .slice A0_0 a0.length n0_0), (1, .int .i64 a1)]) (by kernel_rfl) ?_
  refine gk_seq (by kernel_rfl) ?_
  refine gk_region (by kernel_rfl) ?_
  refine gl_pure 3 [0, 1] (K' := [(0, .slice A0_0 a0.length n0_0), (1, .int .i64 a1)]) (by kernel_rfl) ?_
  refine gl_atE (by kernel_rfl) ?_
  refine ge_seq ?_
  refine gk_seq (by kernel_rfl) ?_
  refine gk_seq (by kernel_rfl) ?_
  obtain ⟨b3, hb4⟩ : ∃ z, z = ((decide (a1 < 0)) || (decide (a1 > (a0.length : Int)))) := ⟨_, rfl⟩
  refine gk_join (fun t I' L' => I ≤ I' ∧ L = L' ∧ Knows 62 [(0, .slice A0_0 a0.length n0_0), (1, .int .i64 a1), (17, .bool b3)] t) ?_ ?_
  · refine gk_region (by kernel_rfl) ?_
    refine gl_pure 3 [0, 1, 12] (K' := [(0, .slice A0_0 a0.length n0_0), (1, .int .i64 a1), (12, .bool (decide (a1 < 0)))]) (by kernel_rfl) ?_
    refine gl_case 12 (b := (decide (a1 < 0))) (by kernel_rfl) (fun hc6 => ?_) (fun hc6 => ?_)
    · refine gl_pure 5 [0, 1, 17] (K' := [(0, .slice A0_0 a0.length n0_0), (1, .int .i64 a1), (17, .bool true)]) (by kernel_rfl) ?_
      refine gl_atE (by kernel_rfl) ?_
      exact ge_mid fun t ht => ⟨(Imm.refl _), rfl, by rw [(show b3 = true from hb4.trans (by rw [hc6]; try rfl))]; exact ht.pick (l := [0, 1, 17]) (by kernel_rfl)⟩
    · refine gl_pure 5 [0, 1, 17] (K' := [(0, .slice A0_0 a0.length n0_0), (1, .int .i64 a1), (17, .bool (decide (a1 > (a0.length : Int))))]) (by kernel_rfl) ?_
      refine gl_atE (by kernel_rfl) ?_
      exact ge_mid fun t ht => ⟨(Imm.refl _), rfl, by rw [(show b3 = (decide (a1 > (a0.length : Int))) from hb4.trans (by rw [hc6]; try rfl))]; exact ht.pick (l := [0, 1, 17]) (by kernel_rfl)⟩
  · rintro t I5 L' ⟨hI1, rfl, hK2⟩
    subst hb4
    refine ge_at hK2 ?_
    refine ge_seq ?_
    refine gk_cond (b := ((decide (a1 < 0)) || (decide (a1 > (a0.length : Int))))) (by kernel_rfl) (by kernel_rfl) (fun hc7 => ?_) (fun hc7 => ?_)
    · have hr := cond_t hc7 hr
      refine gk_seq (by kernel_rfl) ?_
      refine gk_region (by kernel_rfl) ?_
      refine gl_pure 3 [4, 5, 6] (K' := [(4, .int .u64 0), (5, .int .i64 0), (6, .int .i64 1)]) (by kernel_rfl) ?_
      refine gl_atE (by kernel_rfl) ?_
      refine ge_seq ?_
      refine gk_ret (by kernel_rfl) ?_
      refine ge_seq_ret ?_
      obtain rfl := some_inj hr
      exact ge_result trivial (ResOk.tmp (by kernel_rfl) (ResOk.tmp (by kernel_rfl) (ResOk.tmp (by kernel_rfl) ResOk.nil))) hI1 ⟨rfl, rfl⟩
    · have hr := cond_f hc7 hr
      refine gk_skip (by kernel_rfl) ?_
      refine ge_seq ?_
      refine gk_seq (by kernel_rfl) ?_
      refine gk_region (by kernel_rfl) ?_
      refine gl_pure 1 [0, 1, 7] (K' := [(0, .slice A0_0 a0.length n0_0), (1, .int .i64 a1), (7, .int .u64 0)]) (by kernel_rfl) ?_
      refine gl_atE (by kernel_rfl) ?_
      refine ge_seq ?_
      refine gk_seq (by kernel_rfl) ?_
      refine gk_seq (by kernel_rfl) ?_
      refine gk_region (by kernel_rfl) ?_
      refine gl_pure 1 [0, 1, 7, 8] (K' := [(0, .slice A0_0 a0.length n0_0), (1, .int .i64 a1), (7, .int .u64 0), (8, .int .i64 0)]) (by kernel_rfl) ?_
      refine gl_atE (by kernel_rfl) ?_
      refine ge_seq ?_
      obtain ⟨r12, hl13, hr⟩ := bind_some hr
      refine gk_join (fun t I' L' => ∃ r20, r12 = Sum.inl r20 ∧ I5 ≤ I' ∧ L = L' ∧ Knows 62 [] t) ?_ ?_
      · refine gk_block (by kernel_rfl) ?_
        refine gk_pick [0, 1, 7, 8] (K' := [(0, .slice A0_0 a0.length n0_0), (1, .int .i64 a1), (7, .int .u64 0), (8, .int .i64 0)]) (by kernel_rfl) ?_
        intro t hK
        refine gc_loop (tocsinref01_U_l24 a0 a1) (fun s14 t I' L' => I5 ≤ I' ∧ L = L' ∧ Knows 62 [(0, .slice A0_0 a0.length n0_0), (1, .int .i64 a1), (7, .int .u64 s14.1), (8, .int .i64 s14.2)] t) (by kernel_rfl) ?_ hl13 ⟨(Imm.refl _), rfl, hK⟩
        rintro s14 o15 t I19 L' hb16 ⟨hI17, rfl, hK18⟩
        unfold tocsinref01_U_l24 at hb16
        refine gk_at hK18 ?_
        refine gk_seq (by kernel_rfl) ?_
        refine gk_seq (by kernel_rfl) ?_
        refine gk_region (by kernel_rfl) ?_
        refine gl_pure 2 [0, 1, 7, 8, 19] (K' := [(0, .slice A0_0 a0.length n0_0), (1, .int .i64 a1), (7, .int .u64 s14.1), (8, .int .i64 s14.2), (19, .bool (decide (s14.2 < 10)))]) (by kernel_rfl) ?_
        refine gl_atE (by kernel_rfl) ?_
        refine ge_seq ?_
        refine gk_cond (b := (decide (s14.2 < 10))) (by kernel_rfl) (by kernel_rfl) (fun hc26 => ?_) (fun hc26 => ?_)
        · have hb16 := cond_t hc26 hb16
          refine gk_skip (by kernel_rfl) ?_
          refine ge_seq ?_
          refine gk_seq (by kernel_rfl) ?_
          refine gk_block (by kernel_rfl) ?_
          refine gk_seq (by kernel_rfl) ?_
          refine gk_seq (by kernel_rfl) ?_
          refine gk_region (by kernel_rfl) ?_
          refine gl_pure 6 [0, 1, 7, 8, 27] (K' := [(0, .slice A0_0 a0.length n0_0), (1, .int .i64 a1), (7, .int .u64 s14.1), (8, .int .i64 s14.2), (27, .bool (decide (s14.2 ≥ (IntKind.wrap .i64 ((a0.length : Int) - a1)))))]) (by kernel_rfl) ?_
          refine gl_atE (by kernel_rfl) ?_
          refine ge_seq ?_
          refine gk_cond (b := (decide (s14.2 ≥ (IntKind.wrap .i64 ((a0.length : Int) - a1))))) (by kernel_rfl) (by kernel_rfl) (fun hc27 => ?_) (fun hc27 => ?_)
          · have hb16 := cond_t hc27 hb16
            refine gk_seq (by kernel_rfl) ?_
            refine gk_region (by kernel_rfl) ?_
            refine gl_pure 3 [4, 5, 6] (K' := [(4, .int .u64 0), (5, .int .i64 0), (6, .int .i64 9)]) (by kernel_rfl) ?_
            refine gl_atE (by kernel_rfl) ?_
            refine ge_seq ?_
            refine gk_ret (by kernel_rfl) ?_
            refine ge_seq_ret ?_
            refine ge_block_ret ?_
            refine ge_seq_ret ?_
            obtain rfl := some_inj hb16
            refine ge_round_out (fun hrr => ?_) (by intro h; cases h)
            obtain rfl := hrr
            refine ge_block_ret ?_
            refine ge_seq_ret ?_
            refine ge_seq_ret ?_
            obtain rfl := some_inj hr
            exact ge_result trivial (ResOk.tmp (by kernel_rfl) (ResOk.tmp (by kernel_rfl) (ResOk.tmp (by kernel_rfl) ResOk.nil))) (Imm.trans hI1 hI17) ⟨rfl, rfl⟩
          · have hb16 := cond_f hc27 hb16
            refine gk_skip (by kernel_rfl) ?_
            refine ge_seq ?_
            refine gk_seq (by kernel_rfl) ?_
            refine gk_region (by kernel_rfl) ?_
            refine gl_pure 4 [0, 1, 7, 8, 28, 31] (K' := [(0, .slice A0_0 a0.length n0_0), (1, .int .i64 a1), (7, .int .u64 s14.1), (8, .int .i64 s14.2), (28, .slice A0_0 a0.length n0_0), (31, .int .i64 (IntKind.wrap .i64 (a1 + s14.2)))]) (by kernel_rfl) ?_
            obtain ⟨x28, hx29, hb16⟩ := bind_some hb16
            obtain ⟨p30, cs31, hR32, hA33, ha34⟩ := RepS.ixAt hx29 (hf0_0.mono (Imm.trans hI1 hI17))
            have hi35 := ix_some hx29
            obtain rfl := hR32
            refine gl_indexAddrF (c := n0_0) (T' := 58) (e := 5) (xs := (.tmp 28)) (xi := (.tmp 31)) (kd := .i64) ha34 hi35.1 hi35.2.1 (by kernel_rfl) (by kernel_rfl) (by kernel_rfl) (by kernel_rfl) (by kernel_rfl) ?_
            refine gl_load (T' := 5) (xp := (.tmp 32)) (p := p30) (c := .int .u8 x28) (n := 1) (by kernel_rfl) (by kernel_rfl) (by kernel_rfl) (by kernel_rfl) hA33 ?_
            refine gl_pure 1 [0, 1, 7, 8, 9] (K' := [(0, .slice A0_0 a0.length n0_0), (1, .int .i64 a1), (7, .int .u64 s14.1), (8, .int .i64 s14.2), (9, .int .u8 x28)]) (by kernel_rfl) ?_
            refine gl_atE (by kernel_rfl) ?_
            refine ge_seq ?_
            refine gk_seq (by kernel_rfl) ?_
            refine gk_seq (by kernel_rfl) ?_
            obtain ⟨b38, hb39⟩ : ∃ z, z = ((s14.2 == 9) && (decide (x28 > 1))) := ⟨_, rfl⟩
            refine gk_join (fun t I' L' => I19 ≤ I' ∧ L = L' ∧ Knows 62 [(0, .slice A0_0 a0.length n0_0), (1, .int .i64 a1), (7, .int .u64 s14.1), (8, .int .i64 s14.2), (9, .int .u8 x28), (39, .bool b38)] t) ?_ ?_
            · refine gk_region (by kernel_rfl) ?_
              refine gl_pure 3 [0, 1, 7, 8, 9, 36] (K' := [(0, .slice A0_0 a0.length n0_0), (1, .int .i64 a1), (7, .int .u64 s14.1), (8, .int .i64 s14.2), (9, .int .u8 x28), (36, .bool (s14.2 == 9))]) (by kernel_rfl) ?_
              refine gl_case 36 (b := (s14.2 == 9)) (by kernel_rfl) (fun hc41 => ?_) (fun hc41 => ?_)
              · refine gl_pure 3 [0, 1, 7, 8, 9, 39] (K' := [(0, .slice A0_0 a0.length n0_0), (1, .int .i64 a1), (7, .int .u64 s14.1), (8, .int .i64 s14.2), (9, .int .u8 x28), (39, .bool (decide (x28 > 1)))]) (by kernel_rfl) ?_
                refine gl_atE (by kernel_rfl) ?_
                exact ge_mid fun t ht => ⟨(Imm.refl _), rfl, by rw [(show b38 = (decide (x28 > 1)) from hb39.trans (by rw [hc41]; try rfl))]; exact ht.pick (l := [0, 1, 7, 8, 9, 39]) (by kernel_rfl)⟩
              · refine gl_pure 3 [0, 1, 7, 8, 9, 39] (K' := [(0, .slice A0_0 a0.length n0_0), (1, .int .i64 a1), (7, .int .u64 s14.1), (8, .int .i64 s14.2), (9, .int .u8 x28), (39, .bool false)]) (by kernel_rfl) ?_
                refine gl_atE (by kernel_rfl) ?_
                exact ge_mid fun t ht => ⟨(Imm.refl _), rfl, by rw [(show b38 = false from hb39.trans (by rw [hc41]; try rfl))]; exact ht.pick (l := [0, 1, 7, 8, 9, 39]) (by kernel_rfl)⟩
            · rintro t I40 L' ⟨hI36, rfl, hK37⟩
              subst hb39
              refine ge_at hK37 ?_
              refine ge_seq ?_
              refine gk_cond (b := ((s14.2 == 9) && (decide (x28 > 1)))) (by kernel_rfl) (by kernel_rfl) (fun hc42 => ?_) (fun hc42 => ?_)
              · have hb16 := cond_t hc42 hb16
                refine gk_seq (by kernel_rfl) ?_
                refine gk_region (by kernel_rfl) ?_
                refine gl_pure 3 [4, 5, 6] (K' := [(4, .int .u64 0), (5, .int .i64 0), (6, .int .i64 7)]) (by kernel_rfl) ?_
                refine gl_atE (by kernel_rfl) ?_
                refine ge_seq ?_
                refine gk_ret (by kernel_rfl) ?_
                refine ge_seq_ret ?_
                refine ge_block_ret ?_
                refine ge_seq_ret ?_
                obtain rfl := some_inj hb16
                refine ge_round_out (fun hrr => ?_) (by intro h; cases h)
                obtain rfl := hrr
                refine ge_block_ret ?_
                refine ge_seq_ret ?_
                refine ge_seq_ret ?_
                obtain rfl := some_inj hr
                exact ge_result trivial (ResOk.tmp (by kernel_rfl) (ResOk.tmp (by kernel_rfl) (ResOk.tmp (by kernel_rfl) ResOk.nil))) (Imm.trans (Imm.trans hI1 hI17) hI36) ⟨rfl, rfl⟩
              · have hb16 := cond_f hc42 hb16
                refine gk_skip (by kernel_rfl) ?_
                refine ge_seq ?_
                refine gk_seq (by kernel_rfl) ?_
                refine gk_region (by kernel_rfl) ?_
                refine gl_pure 7 [0, 1, 8, 9, 40, 43, 46] (K' := [(0, .slice A0_0 a0.length n0_0), (1, .int .i64 a1), (8, .int .i64 s14.2), (9, .int .u8 x28), (40, .int .u64 s14.1), (43, .int .u64 (IntKind.wrap .u64 (Int.tmod x28 128))), (46, .int .u64 (IntKind.wrap .u64 (IntKind.wrap .i64 (7 * s14.2))))]) (by kernel_rfl) ?_
                obtain ⟨q43, hx44, hb16⟩ := bind_some hb16
                refine gl_shl (t := 106) (t' := 142) (x := (.tmp 43)) (y := (.tmp 46)) (kx := .u64) (ky := .u64) hx44 (by kernel_rfl) (by kernel_rfl) (by kernel_rfl) (by kernel_rfl) ?_
                refine gl_pure 2 [0, 1, 7, 8, 9] (K' := [(0, .slice A0_0 a0.length n0_0), (1, .int .i64 a1), (7, .int .u64 (bitOr .u64 s14.1 q43)), (8, .int .i64 s14.2), (9, .int .u8 x28)]) (by kernel_rfl) ?_
                refine gl_atE (by kernel_rfl) ?_
                refine ge_seq ?_
                refine gk_seq (by kernel_rfl) ?_
                refine gk_region (by kernel_rfl) ?_
                refine gl_pure 2 [0, 1, 7, 8, 9, 50] (K' := [(0, .slice A0_0 a0.length n0_0), (1, .int .i64 a1), (7, .int .u64 (bitOr .u64 s14.1 q43)), (8, .int .i64 s14.2), (9, .int .u8 x28), (50, .bool (decide (x28 < 128)))]) (by kernel_rfl) ?_
                refine gl_atE (by kernel_rfl) ?_
                refine ge_seq ?_
                refine gk_cond (b := (decide (x28 < 128))) (by kernel_rfl) (by kernel_rfl) (fun hc45 => ?_) (fun hc45 => ?_)
                · have hb16 := cond_t hc45 hb16
                  refine gk_seq (by kernel_rfl) ?_
                  refine gk_seq (by kernel_rfl) ?_
                  obtain ⟨b48, hb49⟩ : ∃ z, z = ((x28 == 0) && (decide (s14.2 > 0))) := ⟨_, rfl⟩
                  refine gk_join (fun t I' L' => I40 ≤ I' ∧ L = L' ∧ Knows 62 [(1, .int .i64 a1), (7, .int .u64 (bitOr .u64 s14.1 q43)), (8, .int .i64 s14.2), (56, .bool b48)] t) ?_ ?_
                  · refine gk_region (by kernel_rfl) ?_
                    refine gl_pure 3 [1, 7, 8, 53] (K' := [(1, .int .i64 a1), (7, .int .u64 (bitOr .u64 s14.1 q43)), (8, .int .i64 s14.2), (53, .bool (x28 == 0))]) (by kernel_rfl) ?_
                    refine gl_case 53 (b := (x28 == 0)) (by kernel_rfl) (fun hc51 => ?_) (fun hc51 => ?_)
                    · refine gl_pure 3 [1, 7, 8, 56] (K' := [(1, .int .i64 a1), (7, .int .u64 (bitOr .u64 s14.1 q43)), (8, .int .i64 s14.2), (56, .bool (decide (s14.2 > 0)))]) (by kernel_rfl) ?_
                      refine gl_atE (by kernel_rfl) ?_
                      exact ge_mid fun t ht => ⟨(Imm.refl _), rfl, by rw [(show b48 = (decide (s14.2 > 0)) from hb49.trans (by rw [hc51]; try rfl))]; exact ht.pick (l := [1, 7, 8, 56]) (by kernel_rfl)⟩
                    · refine gl_pure 3 [1, 7, 8, 56] (K' := [(1, .int .i64 a1), (7, .int .u64 (bitOr .u64 s14.1 q43)), (8, .int .i64 s14.2), (56, .bool false)]) (by kernel_rfl) ?_
                      refine gl_atE (by kernel_rfl) ?_
                      exact ge_mid fun t ht => ⟨(Imm.refl _), rfl, by rw [(show b48 = false from hb49.trans (by rw [hc51]; try rfl))]; exact ht.pick (l := [1, 7, 8, 56]) (by kernel_rfl)⟩
                  · rintro t I50 L' ⟨hI46, rfl, hK47⟩
                    subst hb49
                    refine ge_at hK47 ?_
                    refine ge_seq ?_
                    refine gk_cond (b := ((x28 == 0) && (decide (s14.2 > 0)))) (by kernel_rfl) (by kernel_rfl) (fun hc52 => ?_) (fun hc52 => ?_)
                    · have hb16 := cond_t hc52 hb16
                      refine gk_seq (by kernel_rfl) ?_
                      refine gk_region (by kernel_rfl) ?_
                      refine gl_pure 3 [4, 5, 6] (K' := [(4, .int .u64 0), (5, .int .i64 0), (6, .int .i64 3)]) (by kernel_rfl) ?_
                      refine gl_atE (by kernel_rfl) ?_
                      refine ge_seq ?_
                      refine gk_ret (by kernel_rfl) ?_
                      refine ge_seq_ret ?_
                      refine ge_block_ret ?_
                      refine ge_seq_ret ?_
                      obtain rfl := some_inj hb16
                      refine ge_round_out (fun hrr => ?_) (by intro h; cases h)
                      obtain rfl := hrr
                      refine ge_block_ret ?_
                      refine ge_seq_ret ?_
                      refine ge_seq_ret ?_
                      obtain rfl := some_inj hr
                      exact ge_result trivial (ResOk.tmp (by kernel_rfl) (ResOk.tmp (by kernel_rfl) (ResOk.tmp (by kernel_rfl) ResOk.nil))) (Imm.trans (Imm.trans (Imm.trans hI1 hI17) hI36) hI46) ⟨rfl, rfl⟩
                    · have hb16 := cond_f hc52 hb16
                      refine gk_skip (by kernel_rfl) ?_
                      refine ge_seq ?_
                      refine gk_seq (by kernel_rfl) ?_
                      refine gk_region (by kernel_rfl) ?_
                      refine gl_pure 8 [4, 5, 6] (K' := [(4, .int .u64 (bitOr .u64 s14.1 q43)), (5, .int .i64 (IntKind.wrap .i64 ((IntKind.wrap .i64 (a1 + s14.2)) + 1))), (6, .int .i64 0)]) (by kernel_rfl) ?_
                      refine gl_atE (by kernel_rfl) ?_
                      refine ge_seq ?_
                      refine gk_ret (by kernel_rfl) ?_
                      refine ge_block_ret ?_
                      refine ge_seq_ret ?_
                      obtain rfl := some_inj hb16
                      refine ge_round_out (fun hrr => ?_) (by intro h; cases h)
                      obtain rfl := hrr
                      refine ge_block_ret ?_
                      refine ge_seq_ret ?_
                      refine ge_seq_ret ?_
                      obtain rfl := some_inj hr
                      exact ge_result trivial (ResOk.tmp (by kernel_rfl) (ResOk.tmp (by kernel_rfl) (ResOk.tmp (by kernel_rfl) ResOk.nil))) (Imm.trans (Imm.trans (Imm.trans hI1 hI17) hI36) hI46) ⟨rfl, rfl⟩
                · have hb16 := cond_f hc45 hb16
                  refine gk_skip (by kernel_rfl) ?_
                  refine ge_block_normal ?_
                  refine ge_seq ?_
                  refine gk_region (by kernel_rfl) ?_
                  refine gl_pure 3 [0, 1, 7, 8] (K' := [(0, .slice A0_0 a0.length n0_0), (1, .int .i64 a1), (7, .int .u64 (bitOr .u64 s14.1 q43)), (8, .int .i64 (IntKind.wrap .i64 (s14.2 + 1)))]) (by kernel_rfl) ?_
                  refine gl_atE (by kernel_rfl) ?_
                  obtain rfl := some_inj hb16
                  exact ge_round fun t ht => ⟨(Imm.trans hI17 hI36), rfl, ht.pick (l := [0, 1, 7, 8]) (by kernel_rfl)⟩
        · have hb16 := cond_f hc26 hb16
          refine gk_exit (by kernel_rfl) ?_
          refine ge_seq_exit ?_
          obtain rfl := some_inj hb16
          refine ge_round_out (fun hrr => ?_) (by intro h; cases h)
          obtain rfl := hrr
          refine ge_block_hit (by kernel_rfl) ?_
          exact ge_mid fun t ht => ⟨_, rfl, hI17, rfl, ht.pick (l := []) (by kernel_rfl)⟩
      · rintro t I23 L' ⟨r20, rfl, hI21, rfl, hK22⟩
        refine ge_at hK22 ?_
        refine ge_seq ?_
        refine gk_seq (by kernel_rfl) ?_
        refine gk_region (by kernel_rfl) ?_
        refine gl_pure 3 [4, 5, 6] (K' := [(4, .int .u64 0), (5, .int .i64 0), (6, .int .i64 7)]) (by kernel_rfl) ?_
        refine gl_atE (by kernel_rfl) ?_
        refine ge_seq ?_
        refine gk_ret (by kernel_rfl) ?_
        obtain rfl := some_inj hr
        exact ge_result trivial (ResOk.tmp (by kernel_rfl) (ResOk.tmp (by kernel_rfl) (ResOk.tmp (by kernel_rfl) ResOk.nil))) (Imm.trans hI1 hI21) ⟨rfl, rfl⟩
/-! 63 tocsinref01_Text  -/
noncomputable def tocsinref01_Text (a0 : List Int) (a1 : Int) (a2 : Int) : Option (ByteArray × Int × Int) :=
  bif (((decide (a1 < 0)) || (decide (a1 > (a0.length : Int)))) || (decide (a2 < 0))) then
  (some ((⟨#[]⟩ : ByteArray), 0, 1))
  else
  (Option.bind (tocsinref01_U a0 a1) fun (y9 : Int × Int × Int) =>
    bif (y9.2.2 != 0) then
    (some ((⟨#[]⟩ : ByteArray), 0, y9.2.2))
    else
    (bif (decide (y9.1 > (IntKind.wrap .u64 a2))) then
      (some ((⟨#[]⟩ : ByteArray), 0, 4))
      else
      (bif (decide (y9.1 > (IntKind.wrap .u64 (IntKind.wrap .i64 ((a0.length : Int) - y9.2.1))))) then
        (some ((⟨#[]⟩ : ByteArray), 0, 9))
        else
        (Option.bind (lx a0 y9.2.1 (IntKind.wrap .i64 (y9.2.1 + (IntKind.wrap .i64 y9.1)))) fun (l15 : List Int) =>
          Option.bind (tocsinref01_Utf8 (ofBytes l15)) fun (y19 : Bool) =>
          bif (!y19) then
          (some ((⟨#[]⟩ : ByteArray), 0, 12))
          else
          (some ((ofBytes l15), (IntKind.wrap .i64 (y9.2.1 + (IntKind.wrap .i64 y9.1))), 0))))))
theorem tocsinref01_Text_walk {a0 : List Int} {A0_0 : Option Addr} {n0_0 : Nat} {a1 : Int} {a2 : Int} {I : Imm} {r : ByteArray × Int × Int}  (hf0_0 : RepS (Kd.int .u8) I A0_0 n0_0 a0) (hr : tocsinref01_Text a0 a1 a2 = some r) (L : Own) :
    CallsTo Tryd.prog 63 #[.slice A0_0 a0.length n0_0, .int .i64 a1, .int .i64 a2] I L (fun v I' L' => v = .tuple #[.string r.1, .int .i64 r.2.1, .int .i64 r.2.2] ∧ L = L') := by
  unfold tocsinref01_Text at hr
  refine callsTo_body (N := 62) Tryd.func63 (by kernel_rfl) (by kernel_rfl) (by kernel_rfl) ?_
  refine gk_pick [0, 1, 2] (K' := [(0, .slice A0_0 a0.length n0_0), (1, .int .i64 a1), (2, .int .i64 a2)]) (by kernel_rfl) ?_
  refine gk_seq (by kernel_rfl) ?_
  refine gk_region (by kernel_rfl) ?_
  refine gl_pure 3 [0, 1, 2] (K' := [(0, .slice A0_0 a0.length n0_0), (1, .int .i64 a1), (2, .int .i64 a2)]) (by kernel_rfl) ?_
  refine gl_atE (by kernel_rfl) ?_
  refine ge_seq ?_
  refine gk_seq (by kernel_rfl) ?_
  refine gk_seq (by kernel_rfl) ?_
  obtain ⟨b3, hb4⟩ : ∃ z, z = (((decide (a1 < 0)) || (decide (a1 > (a0.length : Int)))) || (decide (a2 < 0))) := ⟨_, rfl⟩
  refine gk_join (fun t I' L' => I ≤ I' ∧ L = L' ∧ Knows 62 [(0, .slice A0_0 a0.length n0_0), (1, .int .i64 a1), (2, .int .i64 a2), (24, .bool b3)] t) ?_ ?_
  · refine gk_region (by kernel_rfl) ?_
    refine gl_pure 3 [0, 1, 2, 15] (K' := [(0, .slice A0_0 a0.length n0_0), (1, .int .i64 a1), (2, .int .i64 a2), (15, .bool (decide (a1 < 0)))]) (by kernel_rfl) ?_
    refine gl_case 15 (b := (decide (a1 < 0))) (by kernel_rfl) (fun hc6 => ?_) (fun hc6 => ?_)
    · refine gl_pure 9 [0, 1, 2, 24] (K' := [(0, .slice A0_0 a0.length n0_0), (1, .int .i64 a1), (2, .int .i64 a2), (24, .bool true)]) (by kernel_rfl) ?_
      refine gl_atE (by kernel_rfl) ?_
      exact ge_mid fun t ht => ⟨(Imm.refl _), rfl, by rw [(show b3 = true from hb4.trans (by rw [hc6]; try rfl))]; exact ht.pick (l := [0, 1, 2, 24]) (by kernel_rfl)⟩
    · refine gl_pure 6 [0, 1, 2, 21] (K' := [(0, .slice A0_0 a0.length n0_0), (1, .int .i64 a1), (2, .int .i64 a2), (21, .bool (decide (a1 > (a0.length : Int))))]) (by kernel_rfl) ?_
      refine gl_case 21 (b := (decide (a1 > (a0.length : Int)))) (by kernel_rfl) (fun hc7 => ?_) (fun hc7 => ?_)
      · refine gl_pure 3 [0, 1, 2, 24] (K' := [(0, .slice A0_0 a0.length n0_0), (1, .int .i64 a1), (2, .int .i64 a2), (24, .bool true)]) (by kernel_rfl) ?_
        refine gl_atE (by kernel_rfl) ?_
        exact ge_mid fun t ht => ⟨(Imm.refl _), rfl, by rw [(show b3 = true from hb4.trans (by rw [hc6, hc7]; try rfl))]; exact ht.pick (l := [0, 1, 2, 24]) (by kernel_rfl)⟩
      · refine gl_pure 3 [0, 1, 2, 24] (K' := [(0, .slice A0_0 a0.length n0_0), (1, .int .i64 a1), (2, .int .i64 a2), (24, .bool (decide (a2 < 0)))]) (by kernel_rfl) ?_
        refine gl_atE (by kernel_rfl) ?_
        exact ge_mid fun t ht => ⟨(Imm.refl _), rfl, by rw [(show b3 = (decide (a2 < 0)) from hb4.trans (by rw [hc6, hc7]; try rfl))]; exact ht.pick (l := [0, 1, 2, 24]) (by kernel_rfl)⟩
  · rintro t I5 L' ⟨hI1, rfl, hK2⟩
    subst hb4
    refine ge_at hK2 ?_
    refine ge_seq ?_
    refine gk_cond (b := (((decide (a1 < 0)) || (decide (a1 > (a0.length : Int)))) || (decide (a2 < 0)))) (by kernel_rfl) (by kernel_rfl) (fun hc8 => ?_) (fun hc8 => ?_)
    · have hr := cond_t hc8 hr
      refine gk_seq (by kernel_rfl) ?_
      refine gk_region (by kernel_rfl) ?_
      refine gl_pure 3 [6, 7, 8] (K' := [(6, .string (⟨#[]⟩ : ByteArray)), (7, .int .i64 0), (8, .int .i64 1)]) (by kernel_rfl) ?_
      refine gl_atE (by kernel_rfl) ?_
      refine ge_seq ?_
      refine gk_ret (by kernel_rfl) ?_
      refine ge_seq_ret ?_
      obtain rfl := some_inj hr
      exact ge_result trivial (ResOk.tmp (by kernel_rfl) (ResOk.tmp (by kernel_rfl) (ResOk.tmp (by kernel_rfl) ResOk.nil))) hI1 ⟨rfl, rfl⟩
    · have hr := cond_f hc8 hr
      refine gk_skip (by kernel_rfl) ?_
      refine ge_seq ?_
      refine gk_seq (by kernel_rfl) ?_
      refine gk_region (by kernel_rfl) ?_
      refine gl_pure 2 [0, 2, 26, 27] (K' := [(0, .slice A0_0 a0.length n0_0), (2, .int .i64 a2), (26, .slice A0_0 a0.length n0_0), (27, .int .i64 a1)]) (by kernel_rfl) ?_
      obtain ⟨y9, hx10, hr⟩ := bind_some hr
      refine gl_callQ (by kernel_rfl) (tocsinref01_U_walk (r := y9) (hf0_0.mono hI1) hx10 _) ?_
      refine gl_pure 7 [0, 2, 9, 10, 11] (K' := [(0, .slice A0_0 a0.length n0_0), (2, .int .i64 a2), (9, .int .u64 y9.1), (10, .int .i64 y9.2.1), (11, .int .i64 y9.2.2)]) (by kernel_rfl) ?_
      refine gl_atE (by kernel_rfl) ?_
      refine ge_seq ?_
      refine gk_seq (by kernel_rfl) ?_
      refine gk_seq (by kernel_rfl) ?_
      refine gk_region (by kernel_rfl) ?_
      refine gl_pure 2 [0, 2, 9, 10, 11, 33] (K' := [(0, .slice A0_0 a0.length n0_0), (2, .int .i64 a2), (9, .int .u64 y9.1), (10, .int .i64 y9.2.1), (11, .int .i64 y9.2.2), (33, .bool (y9.2.2 != 0))]) (by kernel_rfl) ?_
      refine gl_atE (by kernel_rfl) ?_
      refine ge_seq ?_
      refine gk_cond (b := (y9.2.2 != 0)) (by kernel_rfl) (by kernel_rfl) (fun hc11 => ?_) (fun hc11 => ?_)
      · have hr := cond_t hc11 hr
        refine gk_seq (by kernel_rfl) ?_
        refine gk_region (by kernel_rfl) ?_
        refine gl_pure 4 [6, 7, 8] (K' := [(6, .string (⟨#[]⟩ : ByteArray)), (7, .int .i64 0), (8, .int .i64 y9.2.2)]) (by kernel_rfl) ?_
        refine gl_atE (by kernel_rfl) ?_
        refine ge_seq ?_
        refine gk_ret (by kernel_rfl) ?_
        refine ge_seq_ret ?_
        obtain rfl := some_inj hr
        exact ge_result trivial (ResOk.tmp (by kernel_rfl) (ResOk.tmp (by kernel_rfl) (ResOk.tmp (by kernel_rfl) ResOk.nil))) hI1 ⟨rfl, rfl⟩
      · have hr := cond_f hc11 hr
        refine gk_skip (by kernel_rfl) ?_
        refine ge_seq ?_
        refine gk_seq (by kernel_rfl) ?_
        refine gk_seq (by kernel_rfl) ?_
        refine gk_region (by kernel_rfl) ?_
        refine gl_pure 4 [0, 9, 10, 38] (K' := [(0, .slice A0_0 a0.length n0_0), (9, .int .u64 y9.1), (10, .int .i64 y9.2.1), (38, .bool (decide (y9.1 > (IntKind.wrap .u64 a2))))]) (by kernel_rfl) ?_
        refine gl_atE (by kernel_rfl) ?_
        refine ge_seq ?_
        refine gk_cond (b := (decide (y9.1 > (IntKind.wrap .u64 a2)))) (by kernel_rfl) (by kernel_rfl) (fun hc12 => ?_) (fun hc12 => ?_)
        · have hr := cond_t hc12 hr
          refine gk_seq (by kernel_rfl) ?_
          refine gk_region (by kernel_rfl) ?_
          refine gl_pure 3 [6, 7, 8] (K' := [(6, .string (⟨#[]⟩ : ByteArray)), (7, .int .i64 0), (8, .int .i64 4)]) (by kernel_rfl) ?_
          refine gl_atE (by kernel_rfl) ?_
          refine ge_seq ?_
          refine gk_ret (by kernel_rfl) ?_
          refine ge_seq_ret ?_
          obtain rfl := some_inj hr
          exact ge_result trivial (ResOk.tmp (by kernel_rfl) (ResOk.tmp (by kernel_rfl) (ResOk.tmp (by kernel_rfl) ResOk.nil))) hI1 ⟨rfl, rfl⟩
        · have hr := cond_f hc12 hr
          refine gk_skip (by kernel_rfl) ?_
          refine ge_seq ?_
          refine gk_seq (by kernel_rfl) ?_
          refine gk_seq (by kernel_rfl) ?_
          refine gk_region (by kernel_rfl) ?_
          refine gl_pure 7 [0, 9, 10, 45] (K' := [(0, .slice A0_0 a0.length n0_0), (9, .int .u64 y9.1), (10, .int .i64 y9.2.1), (45, .bool (decide (y9.1 > (IntKind.wrap .u64 (IntKind.wrap .i64 ((a0.length : Int) - y9.2.1))))))]) (by kernel_rfl) ?_
          refine gl_atE (by kernel_rfl) ?_
          refine ge_seq ?_
          refine gk_cond (b := (decide (y9.1 > (IntKind.wrap .u64 (IntKind.wrap .i64 ((a0.length : Int) - y9.2.1)))))) (by kernel_rfl) (by kernel_rfl) (fun hc13 => ?_) (fun hc13 => ?_)
          · have hr := cond_t hc13 hr
            refine gk_seq (by kernel_rfl) ?_
            refine gk_region (by kernel_rfl) ?_
            refine gl_pure 3 [6, 7, 8] (K' := [(6, .string (⟨#[]⟩ : ByteArray)), (7, .int .i64 0), (8, .int .i64 9)]) (by kernel_rfl) ?_
            refine gl_atE (by kernel_rfl) ?_
            refine ge_seq ?_
            refine gk_ret (by kernel_rfl) ?_
            refine ge_seq_ret ?_
            obtain rfl := some_inj hr
            exact ge_result trivial (ResOk.tmp (by kernel_rfl) (ResOk.tmp (by kernel_rfl) (ResOk.tmp (by kernel_rfl) ResOk.nil))) hI1 ⟨rfl, rfl⟩
          · have hr := cond_f hc13 hr
            refine gk_skip (by kernel_rfl) ?_
            refine ge_seq ?_
            refine gk_seq (by kernel_rfl) ?_
            refine gk_region (by kernel_rfl) ?_
            refine gl_pure 6 [9, 10, 46, 47, 51] (K' := [(9, .int .u64 y9.1), (10, .int .i64 y9.2.1), (46, .slice A0_0 a0.length n0_0), (47, .int .i64 y9.2.1), (51, .int .i64 (IntKind.wrap .i64 (y9.2.1 + (IntKind.wrap .i64 y9.1))))]) (by kernel_rfl) ?_
            obtain ⟨l15, hx14, hr⟩ := bind_some hr
            refine gl_sliceR (d := (Kd.int .u8)) (T' := 58) (e := 5) (xs := (.tmp 46)) (lo := (some (.tmp 47))) (hi := (some (.tmp 51))) hx14 (hf0_0.mono hI1) (by kernel_rfl) (by kernel_rfl) (by kernel_rfl) (by kernel_rfl) (by kernel_rfl) (by kernel_rfl) (fun A16 n17 hf18 => ?_)
            refine gl_bytesStr (c := n17) (src := 58) (dst := 9) (e := 5) (n := 1) (x := (.tmp 52)) (by kernel_rfl) (by kernel_rfl) (by kernel_rfl) (by kernel_rfl) (by kernel_rfl) (by kernel_rfl) (RepS.rd hf18 _) ?_
            refine gl_pure 1 [9, 10, 12] (K' := [(9, .int .u64 y9.1), (10, .int .i64 y9.2.1), (12, .string (ofBytes l15))]) (by kernel_rfl) ?_
            refine gl_atE (by kernel_rfl) ?_
            refine ge_seq ?_
            refine gk_seq (by kernel_rfl) ?_
            refine gk_seq (by kernel_rfl) ?_
            refine gk_region (by kernel_rfl) ?_
            refine gl_pure 1 [9, 10, 12, 54] (K' := [(9, .int .u64 y9.1), (10, .int .i64 y9.2.1), (12, .string (ofBytes l15)), (54, .string (ofBytes l15))]) (by kernel_rfl) ?_
            obtain ⟨y19, hx20, hr⟩ := bind_some hr
            refine gl_callQ (by kernel_rfl) (tocsinref01_Utf8_walk (r := y19)  hx20 _) ?_
            refine gl_pure 1 [9, 10, 12, 56] (K' := [(9, .int .u64 y9.1), (10, .int .i64 y9.2.1), (12, .string (ofBytes l15)), (56, .bool (!y19))]) (by kernel_rfl) ?_
            refine gl_atE (by kernel_rfl) ?_
            refine ge_seq ?_
            refine gk_cond (b := (!y19)) (by kernel_rfl) (by kernel_rfl) (fun hc21 => ?_) (fun hc21 => ?_)
            · have hr := cond_t hc21 hr
              refine gk_seq (by kernel_rfl) ?_
              refine gk_region (by kernel_rfl) ?_
              refine gl_pure 3 [6, 7, 8] (K' := [(6, .string (⟨#[]⟩ : ByteArray)), (7, .int .i64 0), (8, .int .i64 12)]) (by kernel_rfl) ?_
              refine gl_atE (by kernel_rfl) ?_
              refine ge_seq ?_
              refine gk_ret (by kernel_rfl) ?_
              refine ge_seq_ret ?_
              obtain rfl := some_inj hr
              exact ge_result trivial (ResOk.tmp (by kernel_rfl) (ResOk.tmp (by kernel_rfl) (ResOk.tmp (by kernel_rfl) ResOk.nil))) hI1 ⟨rfl, rfl⟩
            · have hr := cond_f hc21 hr
              refine gk_skip (by kernel_rfl) ?_
              refine ge_seq ?_
              refine gk_seq (by kernel_rfl) ?_
              refine gk_region (by kernel_rfl) ?_
              refine gl_pure 8 [6, 7, 8] (K' := [(6, .string (ofBytes l15)), (7, .int .i64 (IntKind.wrap .i64 (y9.2.1 + (IntKind.wrap .i64 y9.1)))), (8, .int .i64 0)]) (by kernel_rfl) ?_
              refine gl_atE (by kernel_rfl) ?_
              refine ge_seq ?_
              refine gk_ret (by kernel_rfl) ?_
              obtain rfl := some_inj hr
              exact ge_result trivial (ResOk.tmp (by kernel_rfl) (ResOk.tmp (by kernel_rfl) (ResOk.tmp (by kernel_rfl) ResOk.nil))) hI1 ⟨rfl, rfl⟩
/-! 104 tocsinref01_back  -/
noncomputable def tocsinref01_back (a0 : Int) : Int :=
  bif ((Int.tmod a0 2) == 0) then
  ((IntKind.wrap .i64 (IntKind.wrap .u64 (Int.tdiv a0 2))))
  else
  ((IntKind.wrap .i64 ((IntKind.wrap .i64 (0 - (IntKind.wrap .i64 (IntKind.wrap .u64 (Int.tdiv a0 2))))) - 1)))
theorem tocsinref01_back_walk {a0 : Int} {I : Imm} {r : Int}  (hr : tocsinref01_back a0 = r) (L : Own) :
    CallsTo Tryd.prog 104 #[.int .u64 a0] I L (fun v I' L' => v = .int .i64 r ∧ L = L') := by
  replace hr : some (tocsinref01_back a0) = some r := congrArg some hr
  unfold tocsinref01_back at hr
  refine callsTo_body (N := 14) Tryd.func104 (by kernel_rfl) (by kernel_rfl) (by kernel_rfl) ?_
  refine gk_pick [0] (K' := [(0, .int .u64 a0)]) (by kernel_rfl) ?_
  refine gk_seq (by kernel_rfl) ?_
  refine gk_region (by kernel_rfl) ?_
  refine gl_pure 1 [0] (K' := [(0, .int .u64 a0)]) (by kernel_rfl) ?_
  refine gl_atE (by kernel_rfl) ?_
  refine ge_seq ?_
  refine gk_seq (by kernel_rfl) ?_
  refine gk_seq (by kernel_rfl) ?_
  refine gk_region (by kernel_rfl) ?_
  refine gl_pure 3 [0, 5] (K' := [(0, .int .u64 a0), (5, .bool ((Int.tmod a0 2) == 0))]) (by kernel_rfl) ?_
  refine gl_atE (by kernel_rfl) ?_
  refine ge_seq ?_
  refine gk_cond (b := ((Int.tmod a0 2) == 0)) (by kernel_rfl) (by kernel_rfl) (fun hc1 => ?_) (fun hc1 => ?_)
  · have hr := scond_t hc1 hr
    refine gk_seq (by kernel_rfl) ?_
    refine gk_region (by kernel_rfl) ?_
    refine gl_pure 4 [2] (K' := [(2, .int .i64 (IntKind.wrap .i64 (IntKind.wrap .u64 (Int.tdiv a0 2))))]) (by kernel_rfl) ?_
    refine gl_atE (by kernel_rfl) ?_
    refine ge_seq ?_
    refine gk_ret (by kernel_rfl) ?_
    refine ge_seq_ret ?_
    obtain rfl := some_inj hr
    exact ge_result trivial (ResOk.tmp (by kernel_rfl) ResOk.nil) (Imm.refl _) ⟨rfl, rfl⟩
  · have hr := scond_f hc1 hr
    refine gk_skip (by kernel_rfl) ?_
    refine ge_seq ?_
    refine gk_seq (by kernel_rfl) ?_
    refine gk_region (by kernel_rfl) ?_
    refine gl_pure 6 [2] (K' := [(2, .int .i64 (IntKind.wrap .i64 ((IntKind.wrap .i64 (0 - (IntKind.wrap .i64 (IntKind.wrap .u64 (Int.tdiv a0 2))))) - 1)))]) (by kernel_rfl) ?_
    refine gl_atE (by kernel_rfl) ?_
    refine ge_seq ?_
    refine gk_ret (by kernel_rfl) ?_
    obtain rfl := some_inj hr
    exact ge_result trivial (ResOk.tmp (by kernel_rfl) ResOk.nil) (Imm.refl _) ⟨rfl, rfl⟩
/-! 64 tocsinref01_I  -/
noncomputable def tocsinref01_I (a0 : List Int) (a1 : Int) : Option (Int × Int × Int) :=
  Option.bind (tocsinref01_U a0 a1) fun (y1 : Int × Int × Int) =>
  bif (y1.2.2 != 0) then
  (some (0, 0, y1.2.2))
  else
  (some ((tocsinref01_back y1.1), y1.2.1, 0))
theorem tocsinref01_I_walk {a0 : List Int} {A0_0 : Option Addr} {n0_0 : Nat} {a1 : Int} {I : Imm} {r : Int × Int × Int}  (hf0_0 : RepS (Kd.int .u8) I A0_0 n0_0 a0) (hr : tocsinref01_I a0 a1 = some r) (L : Own) :
    CallsTo Tryd.prog 64 #[.slice A0_0 a0.length n0_0, .int .i64 a1] I L (fun v I' L' => v = .tuple #[.int .i64 r.1, .int .i64 r.2.1, .int .i64 r.2.2] ∧ L = L') := by
  unfold tocsinref01_I at hr
  refine callsTo_body (N := 23) Tryd.func64 (by kernel_rfl) (by kernel_rfl) (by kernel_rfl) ?_
  refine gk_pick [0, 1] (K' := [(0, .slice A0_0 a0.length n0_0), (1, .int .i64 a1)]) (by kernel_rfl) ?_
  refine gk_seq (by kernel_rfl) ?_
  refine gk_region (by kernel_rfl) ?_
  refine gl_pure 3 [0, 1] (K' := [(0, .slice A0_0 a0.length n0_0), (1, .int .i64 a1)]) (by kernel_rfl) ?_
  refine gl_atE (by kernel_rfl) ?_
  refine ge_seq ?_
  refine gk_seq (by kernel_rfl) ?_
  refine gk_region (by kernel_rfl) ?_
  refine gl_pure 2 [11, 12] (K' := [(11, .slice A0_0 a0.length n0_0), (12, .int .i64 a1)]) (by kernel_rfl) ?_
  obtain ⟨y1, hx2, hr⟩ := bind_some hr
  refine gl_callQ (by kernel_rfl) (tocsinref01_U_walk (r := y1) hf0_0 hx2 _) ?_
  refine gl_pure 7 [7, 8, 9] (K' := [(7, .int .u64 y1.1), (8, .int .i64 y1.2.1), (9, .int .i64 y1.2.2)]) (by kernel_rfl) ?_
  refine gl_atE (by kernel_rfl) ?_
  refine ge_seq ?_
  refine gk_seq (by kernel_rfl) ?_
  refine gk_seq (by kernel_rfl) ?_
  refine gk_region (by kernel_rfl) ?_
  refine gl_pure 2 [7, 8, 9, 18] (K' := [(7, .int .u64 y1.1), (8, .int .i64 y1.2.1), (9, .int .i64 y1.2.2), (18, .bool (y1.2.2 != 0))]) (by kernel_rfl) ?_
  refine gl_atE (by kernel_rfl) ?_
  refine ge_seq ?_
  refine gk_cond (b := (y1.2.2 != 0)) (by kernel_rfl) (by kernel_rfl) (fun hc3 => ?_) (fun hc3 => ?_)
  · have hr := cond_t hc3 hr
    refine gk_seq (by kernel_rfl) ?_
    refine gk_region (by kernel_rfl) ?_
    refine gl_pure 4 [4, 5, 6] (K' := [(4, .int .i64 0), (5, .int .i64 0), (6, .int .i64 y1.2.2)]) (by kernel_rfl) ?_
    refine gl_atE (by kernel_rfl) ?_
    refine ge_seq ?_
    refine gk_ret (by kernel_rfl) ?_
    refine ge_seq_ret ?_
    obtain rfl := some_inj hr
    exact ge_result trivial (ResOk.tmp (by kernel_rfl) (ResOk.tmp (by kernel_rfl) (ResOk.tmp (by kernel_rfl) ResOk.nil))) (Imm.refl _) ⟨rfl, rfl⟩
  · have hr := cond_f hc3 hr
    refine gk_skip (by kernel_rfl) ?_
    refine ge_seq ?_
    refine gk_seq (by kernel_rfl) ?_
    refine gk_region (by kernel_rfl) ?_
    refine gl_pure 1 [8, 20] (K' := [(8, .int .i64 y1.2.1), (20, .int .u64 y1.1)]) (by kernel_rfl) ?_
    refine gl_callQ (by kernel_rfl) (tocsinref01_back_walk (r := (tocsinref01_back y1.1))  rfl _) ?_
    refine gl_pure 4 [4, 5, 6] (K' := [(4, .int .i64 (tocsinref01_back y1.1)), (5, .int .i64 y1.2.1), (6, .int .i64 0)]) (by kernel_rfl) ?_
    refine gl_atE (by kernel_rfl) ?_
    refine ge_seq ?_
    refine gk_ret (by kernel_rfl) ?_
    obtain rfl := some_inj hr
    exact ge_result trivial (ResOk.tmp (by kernel_rfl) (ResOk.tmp (by kernel_rfl) (ResOk.tmp (by kernel_rfl) ResOk.nil))) (Imm.refl _) ⟨rfl, rfl⟩
/-! 66 tocsinref04_Read  -/
noncomputable def tocsinref04_Read_l33 (a0 : List Int) (y1 : Int × Int × Int) : (Int × (List S79) × Int) → Option ((Int × (List S79) × Int) ⊕ ((Int × (List S79)) ⊕ ((List S79) × Int × Int))) := fun s15 =>
  bif (decide (s15.2.2 < y1.1)) then
  (Option.bind (tocsinref01_Text a0 s15.1 64) fun (y37 : ByteArray × Int × Int) =>
    bif (y37.2.2 != 0) then
    (some (Sum.inr (Sum.inr ([], 0, y37.2.2))))
    else
    (Option.bind (tocsinref01_Text a0 y37.2.1 256) fun (y40 : ByteArray × Int × Int) =>
      bif (y40.2.2 != 0) then
      (some (Sum.inr (Sum.inr ([], 0, y40.2.2))))
      else
      (Option.bind (app s15.2.1 [(⟨y37.1, y40.1⟩ : S79)]) fun (zs47 : List S79) =>
        some (Sum.inl (y40.2.1, zs47, (IntKind.wrap .u64 (s15.2.2 + 1)))))))
  else
  (some (Sum.inr (Sum.inl (s15.1, s15.2.1))))
noncomputable def tocsinref04_Read (a0 : List Int) (a1 : Int) : Option ((List S79) × Int × Int) :=
  Option.bind (tocsinref01_U a0 a1) fun (y1 : Int × Int × Int) =>
  bif (y1.2.2 != 0) then
  (some ([], 0, y1.2.2))
  else
  (bif (decide (y1.1 > 16)) then
    (some ([], 0, 8))
    else
    (Option.bind (loopO (tocsinref04_Read_l33 a0 y1) (y1.2.1, [], 0)) fun (r13 : (Int × (List S79)) ⊕ ((List S79) × Int × Int)) =>
      match r13 with
      | Sum.inl r25 => Option.bind (tocsinref04_Right r25.2) fun (y53 : Int × Int) =>
        bif (y53.1 != 0) then
        (some ([], 0, y53.1))
        else
        (some (r25.2, r25.1, 0))
      | Sum.inr v56 => some v56))
theorem tocsinref04_Read_walk {a0 : List Int} {A0_0 : Option Addr} {n0_0 : Nat} {a1 : Int} {I : Imm} {r : (List S79) × Int × Int}  (hf0_0 : RepS (Kd.int .u8) I A0_0 n0_0 a0) (hr : tocsinref04_Read a0 a1 = some r) (L : Own) :
    CallsTo Tryd.prog 66 #[.slice A0_0 a0.length n0_0, .int .i64 a1] I L (fun v I' L' => ∃ A0 c0 C0, OwnS kS79 80 I' A0 c0 r.1 C0 ∧ v = .tuple #[.slice A0 r.1.length c0, .int .i64 r.2.1, .int .i64 r.2.2] ∧ C0 ++ L = L') := by
  unfold tocsinref04_Read at hr
  refine callsTo_body (N := 76) Tryd.func66 (by kernel_rfl) (by kernel_rfl) (by kernel_rfl) ?_
  refine gk_pick [0, 1] (K' := [(0, .slice A0_0 a0.length n0_0), (1, .int .i64 a1)]) (by kernel_rfl) ?_
  refine gk_seq (by kernel_rfl) ?_
  refine gk_region (by kernel_rfl) ?_
  refine gl_pure 3 [0, 1] (K' := [(0, .slice A0_0 a0.length n0_0), (1, .int .i64 a1)]) (by kernel_rfl) ?_
  refine gl_atE (by kernel_rfl) ?_
  refine ge_seq ?_
  refine gk_seq (by kernel_rfl) ?_
  refine gk_region (by kernel_rfl) ?_
  refine gl_pure 2 [0, 21, 22] (K' := [(0, .slice A0_0 a0.length n0_0), (21, .slice A0_0 a0.length n0_0), (22, .int .i64 a1)]) (by kernel_rfl) ?_
  obtain ⟨y1, hx2, hr⟩ := bind_some hr
  refine gl_callQ (by kernel_rfl) (tocsinref01_U_walk (r := y1) hf0_0 hx2 _) ?_
  refine gl_pure 7 [0, 1, 7, 8] (K' := [(0, .slice A0_0 a0.length n0_0), (1, .int .i64 y1.2.1), (7, .int .u64 y1.1), (8, .int .i64 y1.2.2)]) (by kernel_rfl) ?_
  refine gl_atE (by kernel_rfl) ?_
  refine ge_seq ?_
  refine gk_seq (by kernel_rfl) ?_
  refine gk_seq (by kernel_rfl) ?_
  refine gk_region (by kernel_rfl) ?_
  refine gl_pure 2 [0, 1, 7, 8, 28] (K' := [(0, .slice A0_0 a0.length n0_0), (1, .int .i64 y1.2.1), (7, .int .u64 y1.1), (8, .int .i64 y1.2.2), (28, .bool (y1.2.2 != 0))]) (by kernel_rfl) ?_
  refine gl_atE (by kernel_rfl) ?_
  refine ge_seq ?_
  refine gk_cond (b := (y1.2.2 != 0)) (by kernel_rfl) (by kernel_rfl) (fun hc3 => ?_) (fun hc3 => ?_)
  · have hr := cond_t hc3 hr
    refine gk_seq (by kernel_rfl) ?_
    refine gk_region (by kernel_rfl) ?_
    refine gl_pure 4 [4, 5, 6] (K' := [(4, .slice none 0 0), (5, .int .i64 0), (6, .int .i64 y1.2.2)]) (by kernel_rfl) ?_
    refine gl_atE (by kernel_rfl) ?_
    refine ge_seq ?_
    refine gk_ret (by kernel_rfl) ?_
    refine ge_seq_ret ?_
    obtain rfl := some_inj hr
    exact ge_result trivial (ResOk.tmp (by kernel_rfl) (ResOk.tmp (by kernel_rfl) (ResOk.tmp (by kernel_rfl) ResOk.nil))) (Imm.refl _) ⟨none, 0, [], OwnS.nil _ _ _ _, rfl, rfl⟩
  · have hr := cond_f hc3 hr
    refine gk_skip (by kernel_rfl) ?_
    refine ge_seq ?_
    refine gk_seq (by kernel_rfl) ?_
    refine gk_seq (by kernel_rfl) ?_
    refine gk_region (by kernel_rfl) ?_
    refine gl_pure 2 [0, 1, 7, 31] (K' := [(0, .slice A0_0 a0.length n0_0), (1, .int .i64 y1.2.1), (7, .int .u64 y1.1), (31, .bool (decide (y1.1 > 16)))]) (by kernel_rfl) ?_
    refine gl_atE (by kernel_rfl) ?_
    refine ge_seq ?_
    refine gk_cond (b := (decide (y1.1 > 16))) (by kernel_rfl) (by kernel_rfl) (fun hc4 => ?_) (fun hc4 => ?_)
    · have hr := cond_t hc4 hr
      refine gk_seq (by kernel_rfl) ?_
      refine gk_region (by kernel_rfl) ?_
      refine gl_pure 3 [4, 5, 6] (K' := [(4, .slice none 0 0), (5, .int .i64 0), (6, .int .i64 8)]) (by kernel_rfl) ?_
      refine gl_atE (by kernel_rfl) ?_
      refine ge_seq ?_
      refine gk_ret (by kernel_rfl) ?_
      refine ge_seq_ret ?_
      obtain rfl := some_inj hr
      exact ge_result trivial (ResOk.tmp (by kernel_rfl) (ResOk.tmp (by kernel_rfl) (ResOk.tmp (by kernel_rfl) ResOk.nil))) (Imm.refl _) ⟨none, 0, [], OwnS.nil _ _ _ _, rfl, rfl⟩
    · have hr := cond_f hc4 hr
      refine gk_skip (by kernel_rfl) ?_
      refine ge_seq ?_
      refine gk_seq (by kernel_rfl) ?_
      refine gk_region (by kernel_rfl) ?_
      refine gl_pure 1 [0, 1, 7, 9] (K' := [(0, .slice A0_0 a0.length n0_0), (1, .int .i64 y1.2.1), (7, .int .u64 y1.1), (9, .slice none 0 0)]) (by kernel_rfl) ?_
      refine gl_atE (by kernel_rfl) ?_
      refine ge_seq ?_
      refine gk_seq (by kernel_rfl) ?_
      refine gk_seq (by kernel_rfl) ?_
      refine gk_region (by kernel_rfl) ?_
      refine gl_pure 1 [0, 1, 7, 9, 10] (K' := [(0, .slice A0_0 a0.length n0_0), (1, .int .i64 y1.2.1), (7, .int .u64 y1.1), (9, .slice none 0 0), (10, .int .u64 0)]) (by kernel_rfl) ?_
      refine gl_atE (by kernel_rfl) ?_
      refine ge_seq ?_
      obtain ⟨r13, hl14, hr⟩ := bind_some hr
      refine gk_join (fun t I' L' => ∃ r25, r13 = Sum.inl r25 ∧ ∃ A27 n28 C29, OwnS kS79 80 I' A27 n28 r25.2 C29 ∧ I ≤ I' ∧ C29 ++ L = L' ∧ Knows 76 [(1, .int .i64 r25.1), (9, .slice A27 r25.2.length n28)] t) ?_ ?_
      · refine gk_block (by kernel_rfl) ?_
        refine gk_pick [0, 1, 7, 9, 10] (K' := [(0, .slice A0_0 a0.length n0_0), (1, .int .i64 y1.2.1), (7, .int .u64 y1.1), (9, .slice none 0 0), (10, .int .u64 0)]) (by kernel_rfl) ?_
        intro t hK
        refine gc_loop (tocsinref04_Read_l33 a0 y1) (fun s15 t I' L' => ∃ A19 n20 C21, OwnS kS79 80 I' A19 n20 s15.2.1 C21 ∧ I ≤ I' ∧ C21 ++ L = L' ∧ Knows 76 [(0, .slice A0_0 a0.length n0_0), (1, .int .i64 s15.1), (7, .int .u64 y1.1), (9, .slice A19 s15.2.1.length n20), (10, .int .u64 s15.2.2)] t) (by kernel_rfl) ?_ hl14 ⟨none, 0, [], OwnS.nil _ _ _ _, (Imm.refl _), rfl, hK⟩
        rintro s15 o16 t I24 L' hb17 ⟨A19, n20, C21, hO22, hI18, rfl, hK23⟩
        unfold tocsinref04_Read_l33 at hb17
        refine gk_at hK23 ?_
        refine gk_seq (by kernel_rfl) ?_
        refine gk_seq (by kernel_rfl) ?_
        refine gk_region (by kernel_rfl) ?_
        refine gl_pure 3 [0, 1, 7, 9, 10, 34] (K' := [(0, .slice A0_0 a0.length n0_0), (1, .int .i64 s15.1), (7, .int .u64 y1.1), (9, .slice A19 s15.2.1.length n20), (10, .int .u64 s15.2.2), (34, .bool (decide (s15.2.2 < y1.1)))]) (by kernel_rfl) ?_
        refine gl_atE (by kernel_rfl) ?_
        refine ge_seq ?_
        refine gk_cond (b := (decide (s15.2.2 < y1.1))) (by kernel_rfl) (by kernel_rfl) (fun hc35 => ?_) (fun hc35 => ?_)
        · have hb17 := cond_t hc35 hb17
          refine gk_skip (by kernel_rfl) ?_
          refine ge_seq ?_
          refine gk_seq (by kernel_rfl) ?_
          refine gk_block (by kernel_rfl) ?_
          refine gk_seq (by kernel_rfl) ?_
          refine gk_region (by kernel_rfl) ?_
          refine gl_alloc (T' := 80) (cs := #[.string (⟨#[]⟩ : ByteArray), .string (⟨#[]⟩ : ByteArray)]) (by kernel_rfl) (by kernel_rfl) (by kernel_rfl) (fun g36 => ?_)
          refine gl_atE (by kernel_rfl) ?_
          refine ge_seq ?_
          refine gk_seq (by kernel_rfl) ?_
          refine gk_region (by kernel_rfl) ?_
          refine gl_pure 2 [0, 7, 9, 10, 11, 38, 39] (K' := [(0, .slice A0_0 a0.length n0_0), (7, .int .u64 y1.1), (9, .slice A19 s15.2.1.length n20), (10, .int .u64 s15.2.2), (11, .pointer (some ⟨g36, 0, none⟩)), (38, .slice A0_0 a0.length n0_0), (39, .int .i64 s15.1)]) (by kernel_rfl) ?_
          obtain ⟨y37, hx38, hb17⟩ := bind_some hb17
          refine gl_callQ (by kernel_rfl) (tocsinref01_Text_walk (r := y37) (hf0_0.mono hI18) hx38 _) ?_
          refine gl_pure 7 [0, 7, 9, 10, 11, 12, 13, 14] (K' := [(0, .slice A0_0 a0.length n0_0), (7, .int .u64 y1.1), (9, .slice A19 s15.2.1.length n20), (10, .int .u64 s15.2.2), (11, .pointer (some ⟨g36, 0, none⟩)), (12, .string y37.1), (13, .int .i64 y37.2.1), (14, .int .i64 y37.2.2)]) (by kernel_rfl) ?_
          refine gl_atE (by kernel_rfl) ?_
          refine ge_seq ?_
          refine gk_seq (by kernel_rfl) ?_
          refine gk_seq (by kernel_rfl) ?_
          refine gk_region (by kernel_rfl) ?_
          refine gl_pure 2 [0, 7, 9, 10, 11, 12, 13, 14, 45] (K' := [(0, .slice A0_0 a0.length n0_0), (7, .int .u64 y1.1), (9, .slice A19 s15.2.1.length n20), (10, .int .u64 s15.2.2), (11, .pointer (some ⟨g36, 0, none⟩)), (12, .string y37.1), (13, .int .i64 y37.2.1), (14, .int .i64 y37.2.2), (45, .bool (y37.2.2 != 0))]) (by kernel_rfl) ?_
          refine gl_atE (by kernel_rfl) ?_
          refine ge_seq ?_
          refine gk_cond (b := (y37.2.2 != 0)) (by kernel_rfl) (by kernel_rfl) (fun hc39 => ?_) (fun hc39 => ?_)
          · have hb17 := cond_t hc39 hb17
            refine gk_seq (by kernel_rfl) ?_
            refine gk_region (by kernel_rfl) ?_
            refine gl_pure 4 [4, 5, 6] (K' := [(4, .slice none 0 0), (5, .int .i64 0), (6, .int .i64 y37.2.2)]) (by kernel_rfl) ?_
            refine gl_atE (by kernel_rfl) ?_
            refine ge_seq ?_
            refine gk_reord (D := L) (Reord.skip (Reord.skipC (Reord.refl _))) ?_
            refine gk_ret (by kernel_rfl) ?_
            refine ge_seq_ret ?_
            refine ge_block_ret ?_
            refine ge_seq_ret ?_
            obtain rfl := some_inj hb17
            refine ge_round_out (fun hrr => ?_) (by intro h; cases h)
            obtain rfl := hrr
            refine ge_block_ret ?_
            refine ge_seq_ret ?_
            refine ge_seq_ret ?_
            obtain rfl := some_inj hr
            exact ge_result trivial (ResOk.tmp (by kernel_rfl) (ResOk.tmp (by kernel_rfl) (ResOk.tmp (by kernel_rfl) ResOk.nil))) hI18 ⟨none, 0, [], OwnS.nil _ _ _ _, rfl, rfl⟩
          · have hb17 := cond_f hc39 hb17
            refine gk_skip (by kernel_rfl) ?_
            refine ge_seq ?_
            refine gk_seq (by kernel_rfl) ?_
            refine gk_region (by kernel_rfl) ?_
            refine gl_pure 2 [0, 7, 9, 10, 11, 13, 47, 48] (K' := [(0, .slice A0_0 a0.length n0_0), (7, .int .u64 y1.1), (9, .slice A19 s15.2.1.length n20), (10, .int .u64 s15.2.2), (11, .pointer (some ⟨g36, 0, none⟩)), (13, .int .i64 y37.2.1), (47, .string y37.1), (48, .pointer (some ⟨g36, 0, none⟩))]) (by kernel_rfl) ?_
            refine gl_storeB (T' := 9) (xp := (.tmp 48)) (xv := (.tmp 47)) (v := .string y37.1) (g := g36) (off := 0) (cs := #[.string (⟨#[]⟩ : ByteArray), .string (⟨#[]⟩ : ByteArray)]) (cs' := #[.string y37.1, .string (⟨#[]⟩ : ByteArray)]) (by kernel_rfl) (by kernel_rfl) (by kernel_rfl) (by kernel_rfl) (by kernel_rfl) (Upd.set _ _ _ _) ?_ (by kernel_rfl)
            refine gl_atE (by kernel_rfl) ?_
            refine ge_seq ?_
            refine gk_seq (by kernel_rfl) ?_
            refine gk_region (by kernel_rfl) ?_
            refine gl_pure 2 [0, 7, 9, 10, 11, 50, 51] (K' := [(0, .slice A0_0 a0.length n0_0), (7, .int .u64 y1.1), (9, .slice A19 s15.2.1.length n20), (10, .int .u64 s15.2.2), (11, .pointer (some ⟨g36, 0, none⟩)), (50, .slice A0_0 a0.length n0_0), (51, .int .i64 y37.2.1)]) (by kernel_rfl) ?_
            obtain ⟨y40, hx41, hb17⟩ := bind_some hb17
            refine gl_callQ (by kernel_rfl) (tocsinref01_Text_walk (r := y40) (hf0_0.mono hI18) hx41 _) ?_
            refine gl_pure 7 [0, 7, 9, 10, 11, 15, 16, 17] (K' := [(0, .slice A0_0 a0.length n0_0), (7, .int .u64 y1.1), (9, .slice A19 s15.2.1.length n20), (10, .int .u64 s15.2.2), (11, .pointer (some ⟨g36, 0, none⟩)), (15, .string y40.1), (16, .int .i64 y40.2.1), (17, .int .i64 y40.2.2)]) (by kernel_rfl) ?_
            refine gl_atE (by kernel_rfl) ?_
            refine ge_seq ?_
            refine gk_seq (by kernel_rfl) ?_
            refine gk_seq (by kernel_rfl) ?_
            refine gk_region (by kernel_rfl) ?_
            refine gl_pure 2 [0, 7, 9, 10, 11, 15, 16, 17, 57] (K' := [(0, .slice A0_0 a0.length n0_0), (7, .int .u64 y1.1), (9, .slice A19 s15.2.1.length n20), (10, .int .u64 s15.2.2), (11, .pointer (some ⟨g36, 0, none⟩)), (15, .string y40.1), (16, .int .i64 y40.2.1), (17, .int .i64 y40.2.2), (57, .bool (y40.2.2 != 0))]) (by kernel_rfl) ?_
            refine gl_atE (by kernel_rfl) ?_
            refine ge_seq ?_
            refine gk_cond (b := (y40.2.2 != 0)) (by kernel_rfl) (by kernel_rfl) (fun hc42 => ?_) (fun hc42 => ?_)
            · have hb17 := cond_t hc42 hb17
              refine gk_seq (by kernel_rfl) ?_
              refine gk_region (by kernel_rfl) ?_
              refine gl_pure 4 [4, 5, 6] (K' := [(4, .slice none 0 0), (5, .int .i64 0), (6, .int .i64 y40.2.2)]) (by kernel_rfl) ?_
              refine gl_atE (by kernel_rfl) ?_
              refine ge_seq ?_
              refine gk_reord (D := L) (Reord.skip (Reord.skipC (Reord.refl _))) ?_
              refine gk_ret (by kernel_rfl) ?_
              refine ge_seq_ret ?_
              refine ge_block_ret ?_
              refine ge_seq_ret ?_
              obtain rfl := some_inj hb17
              refine ge_round_out (fun hrr => ?_) (by intro h; cases h)
              obtain rfl := hrr
              refine ge_block_ret ?_
              refine ge_seq_ret ?_
              refine ge_seq_ret ?_
              obtain rfl := some_inj hr
              exact ge_result trivial (ResOk.tmp (by kernel_rfl) (ResOk.tmp (by kernel_rfl) (ResOk.tmp (by kernel_rfl) ResOk.nil))) hI18 ⟨none, 0, [], OwnS.nil _ _ _ _, rfl, rfl⟩
            · have hb17 := cond_f hc42 hb17
              refine gk_skip (by kernel_rfl) ?_
              refine ge_seq ?_
              refine gk_seq (by kernel_rfl) ?_
              refine gk_region (by kernel_rfl) ?_
              refine gl_pure 2 [0, 7, 9, 10, 11, 16, 59, 60] (K' := [(0, .slice A0_0 a0.length n0_0), (7, .int .u64 y1.1), (9, .slice A19 s15.2.1.length n20), (10, .int .u64 s15.2.2), (11, .pointer (some ⟨g36, 0, none⟩)), (16, .int .i64 y40.2.1), (59, .string y40.1), (60, .pointer (some ⟨g36, 1, none⟩))]) (by kernel_rfl) ?_
              refine gl_storeB (T' := 9) (xp := (.tmp 60)) (xv := (.tmp 59)) (v := .string y40.1) (g := g36) (off := 1) (cs := #[.string y37.1, .string (⟨#[]⟩ : ByteArray)]) (cs' := #[.string y37.1, .string y40.1]) (by kernel_rfl) (by kernel_rfl) (by kernel_rfl) (by kernel_rfl) (by kernel_rfl) (Upd.set _ _ _ _) ?_ (by kernel_rfl)
              refine gl_atE (by kernel_rfl) ?_
              refine ge_seq ?_
              refine gk_seq (by kernel_rfl) ?_
              refine gk_region (by kernel_rfl) ?_
              refine gl_pure 2 [0, 1, 7, 9, 10, 11] (K' := [(0, .slice A0_0 a0.length n0_0), (1, .int .i64 y40.2.1), (7, .int .u64 y1.1), (9, .slice A19 s15.2.1.length n20), (10, .int .u64 s15.2.2), (11, .pointer (some ⟨g36, 0, none⟩))]) (by kernel_rfl) ?_
              refine gl_atE (by kernel_rfl) ?_
              refine ge_seq ?_
              refine gk_region (by kernel_rfl) ?_
              refine gl_pure 1 [0, 1, 7, 10, 11, 62] (K' := [(0, .slice A0_0 a0.length n0_0), (1, .int .i64 y40.2.1), (7, .int .u64 y1.1), (10, .int .u64 s15.2.2), (11, .pointer (some ⟨g36, 0, none⟩)), (62, .slice A19 s15.2.1.length n20)]) (by kernel_rfl) ?_
              refine gl_loadB (T' := 80) (xp := (.tmp 11)) (v := .agg #[.string y37.1, .string y40.1]) (g := g36) (off := 0) (cs := #[.string y37.1, .string y40.1]) (e := 80) (fz := (0, 0)) (by kernel_rfl) (by kernel_rfl) (by kernel_rfl) List.mem_cons_self (by kernel_rfl) ?_
              refine gl_buildSlice (T' := 36) (e := 80) (n := 2) (len := 1) (parts := #[(0, (.tmp 63))]) (l := [(0, .agg #[.string y37.1, .string y40.1])]) (cs := #[.string y37.1, .string y40.1]) (by kernel_rfl) (by kernel_rfl) (by kernel_rfl) (by kernel_rfl) (by kernel_rfl) (fun g43 => ?_)
              have hO44 : OwnS kS79 80 I24 (some ⟨g43, 0, none⟩) 1 [(⟨y37.1, y40.1⟩ : S79)] [(g43, .cells #[.string y37.1, .string y40.1] 80)] := OwnS.lit (row_cons (l := [.string y37.1, .string y40.1]) (kS79_mk (x := (⟨y37.1, y40.1⟩ : S79)) ) (row_nil _ _)) rfl rfl rfl
              refine gl_reord (D := [(g43, .cells #[.string y37.1, .string y40.1] 80)] ++ ((g36, .cells #[.string y37.1, .string y40.1] 80) :: (C21 ++ L))) (Reord.refl _) ?_
              obtain ⟨zs47, hz48, hb17⟩ := bind_some hb17
              refine gl_append (xv := .slice (some ⟨g43, 0, none⟩) [(⟨y37.1, y40.1⟩ : S79)].length 1) (d := kS79) (t := 36) (tx := 36) (e := 80) (s := (.tmp 62)) (x := (.tmp 64)) (xs := s15.2.1) (fun X => [(g43, .cells #[.string y37.1, .string y40.1] 80)] ++ ((g36, .cells #[.string y37.1, .string y40.1] 80) :: (X ++ L))) hz48 (by kernel_rfl) (by kernel_rfl) (by kernel_rfl) (by kernel_rfl) (by kernel_rfl) (by kernel_rfl) (fun X => (Upd.app _ (Upd.one _ (Upd.head _ X _)))) hO22 (SrcOk.slice (c := 1) (e := 80) (n := 2) (OwnS.rd hO44 (Upd.selfC _ _)) (by kernel_rfl)) (fun A49 n50 C51 hO52 => ?_)
              refine gl_pure 1 [0, 1, 7, 9, 10] (K' := [(0, .slice A0_0 a0.length n0_0), (1, .int .i64 y40.2.1), (7, .int .u64 y1.1), (9, .slice A49 zs47.length n50), (10, .int .u64 s15.2.2)]) (by kernel_rfl) ?_
              refine gl_atE (by kernel_rfl) ?_
              refine ge_block_normal ?_
              refine ge_seq ?_
              refine gk_region (by kernel_rfl) ?_
              refine gl_pure 3 [0, 1, 7, 9, 10] (K' := [(0, .slice A0_0 a0.length n0_0), (1, .int .i64 y40.2.1), (7, .int .u64 y1.1), (9, .slice A49 zs47.length n50), (10, .int .u64 (IntKind.wrap .u64 (s15.2.2 + 1)))]) (by kernel_rfl) ?_
              refine gl_reord (D := C51 ++ L) (Reord.step (Upd.app _ (Upd.one _ (Upd.rmC _ _))) (Reord.skipC (Reord.skip (Reord.refl _)))) ?_
              refine gl_atE (by kernel_rfl) ?_
              obtain rfl := some_inj hb17
              exact ge_round fun t ht => ⟨A49, n50, C51, hO52, hI18, rfl, ht.pick (l := [0, 1, 7, 9, 10]) (by kernel_rfl)⟩
        · have hb17 := cond_f hc35 hb17
          refine gk_exit (by kernel_rfl) ?_
          refine ge_seq_exit ?_
          obtain rfl := some_inj hb17
          refine ge_round_out (fun hrr => ?_) (by intro h; cases h)
          obtain rfl := hrr
          refine ge_block_hit (by kernel_rfl) ?_
          exact ge_mid fun t ht => ⟨_, rfl, A19, n20, C21, hO22, hI18, rfl, ht.pick (l := [1, 9]) (by kernel_rfl)⟩
      · rintro t I32 L' ⟨r25, rfl, A27, n28, C29, hO30, hI26, rfl, hK31⟩
        refine ge_at hK31 ?_
        refine ge_seq ?_
        refine gk_seq (by kernel_rfl) ?_
        refine gk_seq (by kernel_rfl) ?_
        refine gk_region (by kernel_rfl) ?_
        refine gl_pure 1 [1, 9, 67] (K' := [(1, .int .i64 r25.1), (9, .slice A27 r25.2.length n28), (67, .slice A27 r25.2.length n28)]) (by kernel_rfl) ?_
        obtain ⟨y53, hx54, hr⟩ := bind_some hr
        refine gl_callB (r := .tuple #[.int .i64 y53.1, .int .i64 y53.2]) (Tk.step (Upd.rmC _ _) (Tk.nil _)) (by kernel_rfl) (fun J hJ hC => tocsinref04_Right_walk (r := y53) (OwnS.rest hO30 hJ hC.left) hx54 _) ?_
        refine gl_pure 5 [1, 9, 18] (K' := [(1, .int .i64 r25.1), (9, .slice A27 r25.2.length n28), (18, .int .i64 y53.1)]) (by kernel_rfl) ?_
        refine gl_atE (by kernel_rfl) ?_
        refine ge_seq ?_
        refine gk_seq (by kernel_rfl) ?_
        refine gk_region (by kernel_rfl) ?_
        refine gl_pure 2 [1, 9, 18, 72] (K' := [(1, .int .i64 r25.1), (9, .slice A27 r25.2.length n28), (18, .int .i64 y53.1), (72, .bool (y53.1 != 0))]) (by kernel_rfl) ?_
        refine gl_atE (by kernel_rfl) ?_
        refine ge_seq ?_
        refine gk_cond (b := (y53.1 != 0)) (by kernel_rfl) (by kernel_rfl) (fun hc55 => ?_) (fun hc55 => ?_)
        · have hr := cond_t hc55 hr
          refine gk_seq (by kernel_rfl) ?_
          refine gk_region (by kernel_rfl) ?_
          refine gl_pure 4 [4, 5, 6] (K' := [(4, .slice none 0 0), (5, .int .i64 0), (6, .int .i64 y53.1)]) (by kernel_rfl) ?_
          refine gl_atE (by kernel_rfl) ?_
          refine ge_seq ?_
          refine gk_reord (D := L) (Reord.skipC (Reord.refl _)) ?_
          refine gk_ret (by kernel_rfl) ?_
          refine ge_seq_ret ?_
          obtain rfl := some_inj hr
          exact ge_result trivial (ResOk.tmp (by kernel_rfl) (ResOk.tmp (by kernel_rfl) (ResOk.tmp (by kernel_rfl) ResOk.nil))) hI26 ⟨none, 0, [], OwnS.nil _ _ _ _, rfl, rfl⟩
        · have hr := cond_f hc55 hr
          refine gk_skip (by kernel_rfl) ?_
          refine ge_seq ?_
          refine gk_seq (by kernel_rfl) ?_
          refine gk_region (by kernel_rfl) ?_
          refine gl_pure 5 [4, 5, 6] (K' := [(4, .slice A27 r25.2.length n28), (5, .int .i64 r25.1), (6, .int .i64 0)]) (by kernel_rfl) ?_
          refine gl_atE (by kernel_rfl) ?_
          refine ge_seq ?_
          refine gk_ret (by kernel_rfl) ?_
          obtain rfl := some_inj hr
          exact ge_result trivial (ResOk.tmp (by kernel_rfl) (ResOk.tmp (by kernel_rfl) (ResOk.tmp (by kernel_rfl) ResOk.nil))) hI26 ⟨A27, n28, C29, hO30, rfl, rfl⟩
/-! 28 tocsinref26_Read  -/
noncomputable def tocsinref26_Read_l108 (a0 : List Int) (y67 : Int × Int × Int) : (Int × (List (List S79)) × Int) → Option ((Int × (List (List S79)) × Int) ⊕ ((Int × (List (List S79))) ⊕ (((List (List S79)) × (List (List S79)) × Int × Int) ⊕ ((Int × (List (List S79)) × (List (List S79))) ⊕ (S23 × Int))))) := fun s90 =>
  bif (decide (s90.2.2 < y67.1)) then
  (Option.bind (tocsinref04_Read a0 s90.1) fun (y111 : (List S79) × Int × Int) =>
    bif (y111.2.2 != 0) then
    (some (Sum.inr (Sum.inr (Sum.inr (Sum.inr ((⟨(⟨#[]⟩ : ByteArray), (⟨#[]⟩ : ByteArray), 0, [], []⟩ : S23), 3))))))
    else
    (Option.bind (app s90.2.1 [y111.1]) fun (zs133 : List (List S79)) =>
      some (Sum.inl (y111.2.1, zs133, (IntKind.wrap .u64 (s90.2.2 + 1))))))
  else
  (some (Sum.inr (Sum.inl (s90.1, s90.2.1))))
noncomputable def tocsinref26_Read_l64 (a0 : List Int) : ((List (List S79)) × (List (List S79)) × Int × Int) → Option (((List (List S79)) × (List (List S79)) × Int × Int) ⊕ ((Int × (List (List S79)) × (List (List S79))) ⊕ (S23 × Int))) := fun s38 =>
  bif (decide (s38.2.2.2 < 2)) then
  (Option.bind (tocsinref01_U a0 s38.2.2.1) fun (y67 : Int × Int × Int) =>
    bif ((y67.2.2 != 0) || (decide (y67.1 > 500))) then
    (some (Sum.inr (Sum.inr ((⟨(⟨#[]⟩ : ByteArray), (⟨#[]⟩ : ByteArray), 0, [], []⟩ : S23), 3))))
    else
    (Option.bind (loopO (tocsinref26_Read_l108 a0 y67) (y67.2.1, [], 0)) fun (r88 : (Int × (List (List S79))) ⊕ (((List (List S79)) × (List (List S79)) × Int × Int) ⊕ ((Int × (List (List S79)) × (List (List S79))) ⊕ (S23 × Int)))) =>
      match r88 with
      | Sum.inl r100 => Option.bind (bif (s38.2.2.2 == 0) then
          (some (r100.2, s38.2.1))
          else
          (some (s38.1, r100.2))) fun (j139 : (List (List S79)) × (List (List S79))) =>
        some (Sum.inl (j139.1, j139.2, r100.1, (IntKind.wrap .i64 (s38.2.2.2 + 1))))
      | Sum.inr v153 => some v153))
  else
  (some (Sum.inr (Sum.inl (s38.2.2.1, s38.1, s38.2.1))))
noncomputable def tocsinref26_Read (a0 : List Int) : Option (S23 × Int) :=
  Option.bind (tocsinref01_Text a0 0 64) fun (y3 : ByteArray × Int × Int) =>
  bif (y3.2.2 != 0) then
  (some ((⟨(⟨#[]⟩ : ByteArray), (⟨#[]⟩ : ByteArray), 0, [], []⟩ : S23), 3))
  else
  (Option.bind (tocsinref01_Text a0 y3.2.1 65536) fun (y10 : ByteArray × Int × Int) =>
    bif (y10.2.2 != 0) then
    (some ((⟨(⟨#[]⟩ : ByteArray), (⟨#[]⟩ : ByteArray), 0, [], []⟩ : S23), 3))
    else
    (Option.bind (tocsinref01_I a0 y10.2.1) fun (y17 : Int × Int × Int) =>
      bif (y17.2.2 != 0) then
      (some ((⟨(⟨#[]⟩ : ByteArray), (⟨#[]⟩ : ByteArray), 0, [], []⟩ : S23), 3))
      else
      (Option.bind (loopO (tocsinref26_Read_l64 a0) ([], [], y17.2.1, 0)) fun (r36 : (Int × (List (List S79)) × (List (List S79))) ⊕ (S23 × Int)) =>
        match r36 with
        | Sum.inl r52 => Option.bind (bif (r52.1 != (a0.length : Int)) then
            (some true)
            else
            (Option.bind (tocsinref26_Right (⟨y3.1, y10.1, y17.1, r52.2.1, r52.2.2⟩ : S23)) fun (y160 : Int) =>
              some (y160 != 0))) fun (j154 : Bool) =>
          bif j154 then
          (some ((⟨(⟨#[]⟩ : ByteArray), (⟨#[]⟩ : ByteArray), 0, [], []⟩ : S23), 3))
          else
          (some ((⟨y3.1, y10.1, y17.1, r52.2.1, r52.2.2⟩ : S23), 0))
        | Sum.inr v173 => some v173)))
theorem tocsinref26_Read_walk {a0 : List Int} {A0_0 : Option Addr} {n0_0 : Nat} {I : Imm} {r : S23 × Int}  (hf0_0 : RepS (Kd.int .u8) I A0_0 n0_0 a0) (hr : tocsinref26_Read a0 = some r) (L : Own) :
    CallsTo Tryd.prog 28 #[.slice A0_0 a0.length n0_0] I L (fun v I' L' => ∃ A0_3 c0_3 A0_4 c0_4, RepS (Kd.sl kS79) I' A0_3 c0_3 r.1.f3 ∧ RepS (Kd.sl kS79) I' A0_4 c0_4 r.1.f4 ∧ v = .tuple #[.agg #[.string r.1.f0, .string r.1.f1, .int .i64 r.1.f2, .slice A0_3 r.1.f3.length c0_3, .slice A0_4 r.1.f4.length c0_4], .int .i64 r.2] ∧ L = L') := by
  unfold tocsinref26_Read at hr
  refine callsTo_body (N := 110) Tryd.func28 (by kernel_rfl) (by kernel_rfl) (by kernel_rfl) ?_
  refine gk_pick [0] (K' := [(0, .slice A0_0 a0.length n0_0)]) (by kernel_rfl) ?_
  refine gk_seq (by kernel_rfl) ?_
  refine gk_region (by kernel_rfl) ?_
  refine gl_alloc (T' := 24) (cs := #[.string (⟨#[]⟩ : ByteArray), .string (⟨#[]⟩ : ByteArray), .int .i64 0, .slice none 0 0, .slice none 0 0]) (by kernel_rfl) (by kernel_rfl) (by kernel_rfl) (fun g1 => ?_)
  refine gl_pure 1 [0, 2] (K' := [(0, .slice A0_0 a0.length n0_0), (2, .pointer (some ⟨g1, 0, none⟩))]) (by kernel_rfl) ?_
  refine gl_atE (by kernel_rfl) ?_
  refine ge_seq ?_
  refine gk_seq (by kernel_rfl) ?_
  refine gk_region (by kernel_rfl) ?_
  refine gl_alloc (T' := 24) (cs := #[.string (⟨#[]⟩ : ByteArray), .string (⟨#[]⟩ : ByteArray), .int .i64 0, .slice none 0 0, .slice none 0 0]) (by kernel_rfl) (by kernel_rfl) (by kernel_rfl) (fun g2 => ?_)
  refine gl_atE (by kernel_rfl) ?_
  refine ge_seq ?_
  refine gk_seq (by kernel_rfl) ?_
  refine gk_region (by kernel_rfl) ?_
  refine gl_pure 1 [0, 2, 4, 20] (K' := [(0, .slice A0_0 a0.length n0_0), (2, .pointer (some ⟨g1, 0, none⟩)), (4, .pointer (some ⟨g2, 0, none⟩)), (20, .slice A0_0 a0.length n0_0)]) (by kernel_rfl) ?_
  obtain ⟨y3, hx4, hr⟩ := bind_some hr
  refine gl_callQ (by kernel_rfl) (tocsinref01_Text_walk (r := y3) hf0_0 hx4 _) ?_
  refine gl_pure 7 [0, 2, 4, 5, 6, 7] (K' := [(0, .slice A0_0 a0.length n0_0), (2, .pointer (some ⟨g1, 0, none⟩)), (4, .pointer (some ⟨g2, 0, none⟩)), (5, .string y3.1), (6, .int .i64 y3.2.1), (7, .int .i64 y3.2.2)]) (by kernel_rfl) ?_
  refine gl_atE (by kernel_rfl) ?_
  refine ge_seq ?_
  refine gk_seq (by kernel_rfl) ?_
  refine gk_seq (by kernel_rfl) ?_
  refine gk_region (by kernel_rfl) ?_
  refine gl_pure 2 [0, 2, 4, 5, 6, 26] (K' := [(0, .slice A0_0 a0.length n0_0), (2, .pointer (some ⟨g1, 0, none⟩)), (4, .pointer (some ⟨g2, 0, none⟩)), (5, .string y3.1), (6, .int .i64 y3.2.1), (26, .bool (y3.2.2 != 0))]) (by kernel_rfl) ?_
  refine gl_atE (by kernel_rfl) ?_
  refine ge_seq ?_
  refine gk_cond (b := (y3.2.2 != 0)) (by kernel_rfl) (by kernel_rfl) (fun hc5 => ?_) (fun hc5 => ?_)
  · have hr := cond_t hc5 hr
    refine gk_seq (by kernel_rfl) ?_
    refine gk_region (by kernel_rfl) ?_
    refine gl_pure 1 [2, 27] (K' := [(2, .pointer (some ⟨g1, 0, none⟩)), (27, .agg #[.string (⟨#[]⟩ : ByteArray), .string (⟨#[]⟩ : ByteArray), .int .i64 0, .slice none 0 0, .slice none 0 0])]) (by kernel_rfl) ?_
    refine gl_storeB (T' := 24) (xp := (.tmp 2)) (xv := (.tmp 27)) (v := .agg #[.string (⟨#[]⟩ : ByteArray), .string (⟨#[]⟩ : ByteArray), .int .i64 0, .slice none 0 0, .slice none 0 0]) (g := g1) (off := 0) (cs := #[.string (⟨#[]⟩ : ByteArray), .string (⟨#[]⟩ : ByteArray), .int .i64 0, .slice none 0 0, .slice none 0 0]) (cs' := #[.string (⟨#[]⟩ : ByteArray), .string (⟨#[]⟩ : ByteArray), .int .i64 0, .slice none 0 0, .slice none 0 0]) (by kernel_rfl) (by kernel_rfl) (by kernel_rfl) (by kernel_rfl) (by kernel_rfl) (Upd.one _ (Upd.set _ _ _ _)) ?_ (by kernel_rfl)
    refine gl_pure 1 [2, 3] (K' := [(2, .pointer (some ⟨g1, 0, none⟩)), (3, .int .i64 3)]) (by kernel_rfl) ?_
    refine gl_atE (by kernel_rfl) ?_
    refine ge_seq ?_
    refine gk_rest (Tk.step (Upd.one _ (Upd.rm1 _ _)) (Tk.nil _)) (fun J6 hJ7 hC8 => ?_)
    have hf9 := hC8.left.blk
    refine gk_reord (D := L) (Reord.skip (Reord.refl _)) ?_
    refine gk_ret (by kernel_rfl) ?_
    refine ge_seq_ret ?_
    obtain rfl := some_inj hr
    exact ge_result trivial (ResOk.cell (v := .agg #[.string (⟨#[]⟩ : ByteArray), .string (⟨#[]⟩ : ByteArray), .int .i64 0, .slice none 0 0, .slice none 0 0]) (by kernel_rfl) (loadR_agg (cs := [.string (⟨#[]⟩ : ByteArray), .string (⟨#[]⟩ : ByteArray), .int .i64 0, .slice none 0 0, .slice none 0 0]) (by kernel_rfl) (RunAt.take hf9 5)) (ResOk.tmp (by kernel_rfl) ResOk.nil)) hJ7 ⟨none, 0, none, 0, RepS.nil _ _, RepS.nil _ _, rfl, rfl⟩
  · have hr := cond_f hc5 hr
    refine gk_skip (by kernel_rfl) ?_
    refine ge_seq ?_
    refine gk_seq (by kernel_rfl) ?_
    refine gk_region (by kernel_rfl) ?_
    refine gl_pure 2 [0, 2, 4, 6, 28, 29] (K' := [(0, .slice A0_0 a0.length n0_0), (2, .pointer (some ⟨g1, 0, none⟩)), (4, .pointer (some ⟨g2, 0, none⟩)), (6, .int .i64 y3.2.1), (28, .string y3.1), (29, .pointer (some ⟨g2, 0, none⟩))]) (by kernel_rfl) ?_
    refine gl_storeB (T' := 9) (xp := (.tmp 29)) (xv := (.tmp 28)) (v := .string y3.1) (g := g2) (off := 0) (cs := #[.string (⟨#[]⟩ : ByteArray), .string (⟨#[]⟩ : ByteArray), .int .i64 0, .slice none 0 0, .slice none 0 0]) (cs' := #[.string y3.1, .string (⟨#[]⟩ : ByteArray), .int .i64 0, .slice none 0 0, .slice none 0 0]) (by kernel_rfl) (by kernel_rfl) (by kernel_rfl) (by kernel_rfl) (by kernel_rfl) (Upd.set _ _ _ _) ?_ (by kernel_rfl)
    refine gl_atE (by kernel_rfl) ?_
    refine ge_seq ?_
    refine gk_seq (by kernel_rfl) ?_
    refine gk_region (by kernel_rfl) ?_
    refine gl_pure 2 [0, 2, 4, 31, 32] (K' := [(0, .slice A0_0 a0.length n0_0), (2, .pointer (some ⟨g1, 0, none⟩)), (4, .pointer (some ⟨g2, 0, none⟩)), (31, .slice A0_0 a0.length n0_0), (32, .int .i64 y3.2.1)]) (by kernel_rfl) ?_
    obtain ⟨y10, hx11, hr⟩ := bind_some hr
    refine gl_callQ (by kernel_rfl) (tocsinref01_Text_walk (r := y10) hf0_0 hx11 _) ?_
    refine gl_pure 7 [0, 2, 4, 6, 7, 8] (K' := [(0, .slice A0_0 a0.length n0_0), (2, .pointer (some ⟨g1, 0, none⟩)), (4, .pointer (some ⟨g2, 0, none⟩)), (6, .int .i64 y10.2.1), (7, .int .i64 y10.2.2), (8, .string y10.1)]) (by kernel_rfl) ?_
    refine gl_atE (by kernel_rfl) ?_
    refine ge_seq ?_
    refine gk_seq (by kernel_rfl) ?_
    refine gk_seq (by kernel_rfl) ?_
    refine gk_region (by kernel_rfl) ?_
    refine gl_pure 2 [0, 2, 4, 6, 8, 38] (K' := [(0, .slice A0_0 a0.length n0_0), (2, .pointer (some ⟨g1, 0, none⟩)), (4, .pointer (some ⟨g2, 0, none⟩)), (6, .int .i64 y10.2.1), (8, .string y10.1), (38, .bool (y10.2.2 != 0))]) (by kernel_rfl) ?_
    refine gl_atE (by kernel_rfl) ?_
    refine ge_seq ?_
    refine gk_cond (b := (y10.2.2 != 0)) (by kernel_rfl) (by kernel_rfl) (fun hc12 => ?_) (fun hc12 => ?_)
    · have hr := cond_t hc12 hr
      refine gk_seq (by kernel_rfl) ?_
      refine gk_region (by kernel_rfl) ?_
      refine gl_pure 1 [2, 39] (K' := [(2, .pointer (some ⟨g1, 0, none⟩)), (39, .agg #[.string (⟨#[]⟩ : ByteArray), .string (⟨#[]⟩ : ByteArray), .int .i64 0, .slice none 0 0, .slice none 0 0])]) (by kernel_rfl) ?_
      refine gl_storeB (T' := 24) (xp := (.tmp 2)) (xv := (.tmp 39)) (v := .agg #[.string (⟨#[]⟩ : ByteArray), .string (⟨#[]⟩ : ByteArray), .int .i64 0, .slice none 0 0, .slice none 0 0]) (g := g1) (off := 0) (cs := #[.string (⟨#[]⟩ : ByteArray), .string (⟨#[]⟩ : ByteArray), .int .i64 0, .slice none 0 0, .slice none 0 0]) (cs' := #[.string (⟨#[]⟩ : ByteArray), .string (⟨#[]⟩ : ByteArray), .int .i64 0, .slice none 0 0, .slice none 0 0]) (by kernel_rfl) (by kernel_rfl) (by kernel_rfl) (by kernel_rfl) (by kernel_rfl) (Upd.one _ (Upd.set _ _ _ _)) ?_ (by kernel_rfl)
      refine gl_pure 1 [2, 3] (K' := [(2, .pointer (some ⟨g1, 0, none⟩)), (3, .int .i64 3)]) (by kernel_rfl) ?_
      refine gl_atE (by kernel_rfl) ?_
      refine ge_seq ?_
      refine gk_rest (Tk.step (Upd.one _ (Upd.rm1 _ _)) (Tk.nil _)) (fun J13 hJ14 hC15 => ?_)
      have hf16 := hC15.left.blk
      refine gk_reord (D := L) (Reord.skip (Reord.refl _)) ?_
      refine gk_ret (by kernel_rfl) ?_
      refine ge_seq_ret ?_
      obtain rfl := some_inj hr
      exact ge_result trivial (ResOk.cell (v := .agg #[.string (⟨#[]⟩ : ByteArray), .string (⟨#[]⟩ : ByteArray), .int .i64 0, .slice none 0 0, .slice none 0 0]) (by kernel_rfl) (loadR_agg (cs := [.string (⟨#[]⟩ : ByteArray), .string (⟨#[]⟩ : ByteArray), .int .i64 0, .slice none 0 0, .slice none 0 0]) (by kernel_rfl) (RunAt.take hf16 5)) (ResOk.tmp (by kernel_rfl) ResOk.nil)) hJ14 ⟨none, 0, none, 0, RepS.nil _ _, RepS.nil _ _, rfl, rfl⟩
    · have hr := cond_f hc12 hr
      refine gk_skip (by kernel_rfl) ?_
      refine ge_seq ?_
      refine gk_seq (by kernel_rfl) ?_
      refine gk_region (by kernel_rfl) ?_
      refine gl_pure 2 [0, 2, 4, 6, 40, 41] (K' := [(0, .slice A0_0 a0.length n0_0), (2, .pointer (some ⟨g1, 0, none⟩)), (4, .pointer (some ⟨g2, 0, none⟩)), (6, .int .i64 y10.2.1), (40, .string y10.1), (41, .pointer (some ⟨g2, 1, none⟩))]) (by kernel_rfl) ?_
      refine gl_storeB (T' := 9) (xp := (.tmp 41)) (xv := (.tmp 40)) (v := .string y10.1) (g := g2) (off := 1) (cs := #[.string y3.1, .string (⟨#[]⟩ : ByteArray), .int .i64 0, .slice none 0 0, .slice none 0 0]) (cs' := #[.string y3.1, .string y10.1, .int .i64 0, .slice none 0 0, .slice none 0 0]) (by kernel_rfl) (by kernel_rfl) (by kernel_rfl) (by kernel_rfl) (by kernel_rfl) (Upd.set _ _ _ _) ?_ (by kernel_rfl)
      refine gl_atE (by kernel_rfl) ?_
      refine ge_seq ?_
      refine gk_seq (by kernel_rfl) ?_
      refine gk_region (by kernel_rfl) ?_
      refine gl_pure 2 [0, 2, 4, 43, 44] (K' := [(0, .slice A0_0 a0.length n0_0), (2, .pointer (some ⟨g1, 0, none⟩)), (4, .pointer (some ⟨g2, 0, none⟩)), (43, .slice A0_0 a0.length n0_0), (44, .int .i64 y10.2.1)]) (by kernel_rfl) ?_
      obtain ⟨y17, hx18, hr⟩ := bind_some hr
      refine gl_callQ (by kernel_rfl) (tocsinref01_I_walk (r := y17) hf0_0 hx18 _) ?_
      refine gl_pure 7 [0, 2, 4, 6, 7, 9] (K' := [(0, .slice A0_0 a0.length n0_0), (2, .pointer (some ⟨g1, 0, none⟩)), (4, .pointer (some ⟨g2, 0, none⟩)), (6, .int .i64 y17.2.1), (7, .int .i64 y17.2.2), (9, .int .i64 y17.1)]) (by kernel_rfl) ?_
      refine gl_atE (by kernel_rfl) ?_
      refine ge_seq ?_
      refine gk_seq (by kernel_rfl) ?_
      refine gk_seq (by kernel_rfl) ?_
      refine gk_region (by kernel_rfl) ?_
      refine gl_pure 2 [0, 2, 4, 6, 9, 50] (K' := [(0, .slice A0_0 a0.length n0_0), (2, .pointer (some ⟨g1, 0, none⟩)), (4, .pointer (some ⟨g2, 0, none⟩)), (6, .int .i64 y17.2.1), (9, .int .i64 y17.1), (50, .bool (y17.2.2 != 0))]) (by kernel_rfl) ?_
      refine gl_atE (by kernel_rfl) ?_
      refine ge_seq ?_
      refine gk_cond (b := (y17.2.2 != 0)) (by kernel_rfl) (by kernel_rfl) (fun hc19 => ?_) (fun hc19 => ?_)
      · have hr := cond_t hc19 hr
        refine gk_seq (by kernel_rfl) ?_
        refine gk_region (by kernel_rfl) ?_
        refine gl_pure 1 [2, 51] (K' := [(2, .pointer (some ⟨g1, 0, none⟩)), (51, .agg #[.string (⟨#[]⟩ : ByteArray), .string (⟨#[]⟩ : ByteArray), .int .i64 0, .slice none 0 0, .slice none 0 0])]) (by kernel_rfl) ?_
        refine gl_storeB (T' := 24) (xp := (.tmp 2)) (xv := (.tmp 51)) (v := .agg #[.string (⟨#[]⟩ : ByteArray), .string (⟨#[]⟩ : ByteArray), .int .i64 0, .slice none 0 0, .slice none 0 0]) (g := g1) (off := 0) (cs := #[.string (⟨#[]⟩ : ByteArray), .string (⟨#[]⟩ : ByteArray), .int .i64 0, .slice none 0 0, .slice none 0 0]) (cs' := #[.string (⟨#[]⟩ : ByteArray), .string (⟨#[]⟩ : ByteArray), .int .i64 0, .slice none 0 0, .slice none 0 0]) (by kernel_rfl) (by kernel_rfl) (by kernel_rfl) (by kernel_rfl) (by kernel_rfl) (Upd.one _ (Upd.set _ _ _ _)) ?_ (by kernel_rfl)
        refine gl_pure 1 [2, 3] (K' := [(2, .pointer (some ⟨g1, 0, none⟩)), (3, .int .i64 3)]) (by kernel_rfl) ?_
        refine gl_atE (by kernel_rfl) ?_
        refine ge_seq ?_
        refine gk_rest (Tk.step (Upd.one _ (Upd.rm1 _ _)) (Tk.nil _)) (fun J20 hJ21 hC22 => ?_)
        have hf23 := hC22.left.blk
        refine gk_reord (D := L) (Reord.skip (Reord.refl _)) ?_
        refine gk_ret (by kernel_rfl) ?_
        refine ge_seq_ret ?_
        obtain rfl := some_inj hr
        exact ge_result trivial (ResOk.cell (v := .agg #[.string (⟨#[]⟩ : ByteArray), .string (⟨#[]⟩ : ByteArray), .int .i64 0, .slice none 0 0, .slice none 0 0]) (by kernel_rfl) (loadR_agg (cs := [.string (⟨#[]⟩ : ByteArray), .string (⟨#[]⟩ : ByteArray), .int .i64 0, .slice none 0 0, .slice none 0 0]) (by kernel_rfl) (RunAt.take hf23 5)) (ResOk.tmp (by kernel_rfl) ResOk.nil)) hJ21 ⟨none, 0, none, 0, RepS.nil _ _, RepS.nil _ _, rfl, rfl⟩
      · have hr := cond_f hc19 hr
        refine gk_skip (by kernel_rfl) ?_
        refine ge_seq ?_
        refine gk_seq (by kernel_rfl) ?_
        refine gk_region (by kernel_rfl) ?_
        refine gl_pure 2 [0, 2, 4, 6, 52, 53] (K' := [(0, .slice A0_0 a0.length n0_0), (2, .pointer (some ⟨g1, 0, none⟩)), (4, .pointer (some ⟨g2, 0, none⟩)), (6, .int .i64 y17.2.1), (52, .int .i64 y17.1), (53, .pointer (some ⟨g2, 2, none⟩))]) (by kernel_rfl) ?_
        refine gl_storeB (T' := 2) (xp := (.tmp 53)) (xv := (.tmp 52)) (v := .int .i64 y17.1) (g := g2) (off := 2) (cs := #[.string y3.1, .string y10.1, .int .i64 0, .slice none 0 0, .slice none 0 0]) (cs' := #[.string y3.1, .string y10.1, .int .i64 y17.1, .slice none 0 0, .slice none 0 0]) (by kernel_rfl) (by kernel_rfl) (by kernel_rfl) (by kernel_rfl) (by kernel_rfl) (Upd.set _ _ _ _) ?_ (by kernel_rfl)
        refine gl_atE (by kernel_rfl) ?_
        refine ge_seq ?_
        refine gk_seq (by kernel_rfl) ?_
        refine gk_seq (by kernel_rfl) ?_
        refine gk_region (by kernel_rfl) ?_
        refine gl_pure 1 [0, 2, 4, 6, 10] (K' := [(0, .slice A0_0 a0.length n0_0), (2, .pointer (some ⟨g1, 0, none⟩)), (4, .pointer (some ⟨g2, 0, none⟩)), (6, .int .i64 y17.2.1), (10, .int .i64 0)]) (by kernel_rfl) ?_
        refine gl_atE (by kernel_rfl) ?_
        refine ge_seq ?_
        obtain ⟨r36, hl37, hr⟩ := bind_some hr
        refine gk_join (fun t I' L' => ∃ r52, r36 = Sum.inl r52 ∧ ∃ A54 n55 C56 A58 n59 C60, OwnS (Kd.sl kS79) 36 I' A54 n55 r52.2.1 C56 ∧ OwnS (Kd.sl kS79) 36 I' A58 n59 r52.2.2 C60 ∧ I ≤ I' ∧ C56 ++ (C60 ++ ((g2, .cells #[.string y3.1, .string y10.1, .int .i64 y17.1, .slice A54 r52.2.1.length n55, .slice A58 r52.2.2.length n59] 24) :: ((g1, .cells #[.string (⟨#[]⟩ : ByteArray), .string (⟨#[]⟩ : ByteArray), .int .i64 0, .slice none 0 0, .slice none 0 0] 24) :: L))) = L' ∧ Knows 110 [(0, .slice A0_0 a0.length n0_0), (2, .pointer (some ⟨g1, 0, none⟩)), (4, .pointer (some ⟨g2, 0, none⟩)), (6, .int .i64 r52.1)] t) ?_ ?_
        · refine gk_block (by kernel_rfl) ?_
          refine gk_pick [0, 2, 4, 6, 10] (K' := [(0, .slice A0_0 a0.length n0_0), (2, .pointer (some ⟨g1, 0, none⟩)), (4, .pointer (some ⟨g2, 0, none⟩)), (6, .int .i64 y17.2.1), (10, .int .i64 0)]) (by kernel_rfl) ?_
          intro t hK
          refine gc_loop (tocsinref26_Read_l64 a0) (fun s38 t I' L' => ∃ A42 n43 C44 A46 n47 C48, OwnS (Kd.sl kS79) 36 I' A42 n43 s38.1 C44 ∧ OwnS (Kd.sl kS79) 36 I' A46 n47 s38.2.1 C48 ∧ I ≤ I' ∧ C44 ++ (C48 ++ ((g2, .cells #[.string y3.1, .string y10.1, .int .i64 y17.1, .slice A42 s38.1.length n43, .slice A46 s38.2.1.length n47] 24) :: ((g1, .cells #[.string (⟨#[]⟩ : ByteArray), .string (⟨#[]⟩ : ByteArray), .int .i64 0, .slice none 0 0, .slice none 0 0] 24) :: L))) = L' ∧ Knows 110 [(0, .slice A0_0 a0.length n0_0), (2, .pointer (some ⟨g1, 0, none⟩)), (4, .pointer (some ⟨g2, 0, none⟩)), (6, .int .i64 s38.2.2.1), (10, .int .i64 s38.2.2.2)] t) (by kernel_rfl) ?_ hl37 ⟨none, 0, [], none, 0, [], OwnS.nil _ _ _ _, OwnS.nil _ _ _ _, (Imm.refl _), rfl, hK⟩
          rintro s38 o39 t I51 L' hb40 ⟨A42, n43, C44, A46, n47, C48, hO45, hO49, hI41, rfl, hK50⟩
          unfold tocsinref26_Read_l64 at hb40
          refine gk_at hK50 ?_
          refine gk_seq (by kernel_rfl) ?_
          refine gk_seq (by kernel_rfl) ?_
          refine gk_region (by kernel_rfl) ?_
          refine gl_pure 2 [0, 2, 4, 6, 10, 55] (K' := [(0, .slice A0_0 a0.length n0_0), (2, .pointer (some ⟨g1, 0, none⟩)), (4, .pointer (some ⟨g2, 0, none⟩)), (6, .int .i64 s38.2.2.1), (10, .int .i64 s38.2.2.2), (55, .bool (decide (s38.2.2.2 < 2)))]) (by kernel_rfl) ?_
          refine gl_atE (by kernel_rfl) ?_
          refine ge_seq ?_
          refine gk_cond (b := (decide (s38.2.2.2 < 2))) (by kernel_rfl) (by kernel_rfl) (fun hc66 => ?_) (fun hc66 => ?_)
          · have hb40 := cond_t hc66 hb40
            refine gk_skip (by kernel_rfl) ?_
            refine ge_seq ?_
            refine gk_seq (by kernel_rfl) ?_
            refine gk_block (by kernel_rfl) ?_
            refine gk_seq (by kernel_rfl) ?_
            refine gk_region (by kernel_rfl) ?_
            refine gl_pure 2 [0, 2, 4, 10, 59, 60] (K' := [(0, .slice A0_0 a0.length n0_0), (2, .pointer (some ⟨g1, 0, none⟩)), (4, .pointer (some ⟨g2, 0, none⟩)), (10, .int .i64 s38.2.2.2), (59, .slice A0_0 a0.length n0_0), (60, .int .i64 s38.2.2.1)]) (by kernel_rfl) ?_
            obtain ⟨y67, hx68, hb40⟩ := bind_some hb40
            refine gl_callQ (by kernel_rfl) (tocsinref01_U_walk (r := y67) (hf0_0.mono hI41) hx68 _) ?_
            refine gl_pure 7 [0, 2, 4, 10, 11, 12, 13] (K' := [(0, .slice A0_0 a0.length n0_0), (2, .pointer (some ⟨g1, 0, none⟩)), (4, .pointer (some ⟨g2, 0, none⟩)), (10, .int .i64 s38.2.2.2), (11, .int .u64 y67.1), (12, .int .i64 y67.2.1), (13, .int .i64 y67.2.2)]) (by kernel_rfl) ?_
            refine gl_atE (by kernel_rfl) ?_
            refine ge_seq ?_
            refine gk_seq (by kernel_rfl) ?_
            refine gk_seq (by kernel_rfl) ?_
            obtain ⟨b71, hb72⟩ : ∃ z, z = ((y67.2.2 != 0) || (decide (y67.1 > 500))) := ⟨_, rfl⟩
            refine gk_join (fun t I' L' => I51 ≤ I' ∧ C44 ++ (C48 ++ ((g2, .cells #[.string y3.1, .string y10.1, .int .i64 y17.1, .slice A42 s38.1.length n43, .slice A46 s38.2.1.length n47] 24) :: ((g1, .cells #[.string (⟨#[]⟩ : ByteArray), .string (⟨#[]⟩ : ByteArray), .int .i64 0, .slice none 0 0, .slice none 0 0] 24) :: L))) = L' ∧ Knows 110 [(0, .slice A0_0 a0.length n0_0), (2, .pointer (some ⟨g1, 0, none⟩)), (4, .pointer (some ⟨g2, 0, none⟩)), (10, .int .i64 s38.2.2.2), (11, .int .u64 y67.1), (12, .int .i64 y67.2.1), (70, .bool b71)] t) ?_ ?_
            · refine gk_region (by kernel_rfl) ?_
              refine gl_pure 3 [0, 2, 4, 10, 11, 12, 67] (K' := [(0, .slice A0_0 a0.length n0_0), (2, .pointer (some ⟨g1, 0, none⟩)), (4, .pointer (some ⟨g2, 0, none⟩)), (10, .int .i64 s38.2.2.2), (11, .int .u64 y67.1), (12, .int .i64 y67.2.1), (67, .bool (y67.2.2 != 0))]) (by kernel_rfl) ?_
              refine gl_case 67 (b := (y67.2.2 != 0)) (by kernel_rfl) (fun hc74 => ?_) (fun hc74 => ?_)
              · refine gl_pure 3 [0, 2, 4, 10, 11, 12, 70] (K' := [(0, .slice A0_0 a0.length n0_0), (2, .pointer (some ⟨g1, 0, none⟩)), (4, .pointer (some ⟨g2, 0, none⟩)), (10, .int .i64 s38.2.2.2), (11, .int .u64 y67.1), (12, .int .i64 y67.2.1), (70, .bool true)]) (by kernel_rfl) ?_
                refine gl_atE (by kernel_rfl) ?_
                exact ge_mid fun t ht => ⟨(Imm.refl _), rfl, by rw [(show b71 = true from hb72.trans (by rw [hc74]; try rfl))]; exact ht.pick (l := [0, 2, 4, 10, 11, 12, 70]) (by kernel_rfl)⟩
              · refine gl_pure 3 [0, 2, 4, 10, 11, 12, 70] (K' := [(0, .slice A0_0 a0.length n0_0), (2, .pointer (some ⟨g1, 0, none⟩)), (4, .pointer (some ⟨g2, 0, none⟩)), (10, .int .i64 s38.2.2.2), (11, .int .u64 y67.1), (12, .int .i64 y67.2.1), (70, .bool (decide (y67.1 > 500)))]) (by kernel_rfl) ?_
                refine gl_atE (by kernel_rfl) ?_
                exact ge_mid fun t ht => ⟨(Imm.refl _), rfl, by rw [(show b71 = (decide (y67.1 > 500)) from hb72.trans (by rw [hc74]; try rfl))]; exact ht.pick (l := [0, 2, 4, 10, 11, 12, 70]) (by kernel_rfl)⟩
            · rintro t I73 L' ⟨hI69, rfl, hK70⟩
              subst hb72
              refine ge_at hK70 ?_
              refine ge_seq ?_
              refine gk_cond (b := ((y67.2.2 != 0) || (decide (y67.1 > 500)))) (by kernel_rfl) (by kernel_rfl) (fun hc75 => ?_) (fun hc75 => ?_)
              · have hb40 := cond_t hc75 hb40
                refine gk_seq (by kernel_rfl) ?_
                refine gk_region (by kernel_rfl) ?_
                refine gl_pure 1 [2, 71] (K' := [(2, .pointer (some ⟨g1, 0, none⟩)), (71, .agg #[.string (⟨#[]⟩ : ByteArray), .string (⟨#[]⟩ : ByteArray), .int .i64 0, .slice none 0 0, .slice none 0 0])]) (by kernel_rfl) ?_
                refine gl_storeB (T' := 24) (xp := (.tmp 2)) (xv := (.tmp 71)) (v := .agg #[.string (⟨#[]⟩ : ByteArray), .string (⟨#[]⟩ : ByteArray), .int .i64 0, .slice none 0 0, .slice none 0 0]) (g := g1) (off := 0) (cs := #[.string (⟨#[]⟩ : ByteArray), .string (⟨#[]⟩ : ByteArray), .int .i64 0, .slice none 0 0, .slice none 0 0]) (cs' := #[.string (⟨#[]⟩ : ByteArray), .string (⟨#[]⟩ : ByteArray), .int .i64 0, .slice none 0 0, .slice none 0 0]) (by kernel_rfl) (by kernel_rfl) (by kernel_rfl) (by kernel_rfl) (by kernel_rfl) (Upd.app _ (Upd.app _ (Upd.one _ (Upd.set _ _ _ _)))) ?_ (by kernel_rfl)
                refine gl_pure 1 [2, 3] (K' := [(2, .pointer (some ⟨g1, 0, none⟩)), (3, .int .i64 3)]) (by kernel_rfl) ?_
                refine gl_atE (by kernel_rfl) ?_
                refine ge_seq ?_
                refine gk_rest (Tk.step (Upd.app _ (Upd.app _ (Upd.one _ (Upd.rm1 _ _)))) (Tk.nil _)) (fun J76 hJ77 hC78 => ?_)
                have hf79 := hC78.left.blk
                refine gk_reord (D := L) (Reord.skipC (Reord.skipC (Reord.skip (Reord.refl _)))) ?_
                refine gk_ret (by kernel_rfl) ?_
                refine ge_seq_ret ?_
                refine ge_block_ret ?_
                refine ge_seq_ret ?_
                obtain rfl := some_inj hb40
                refine ge_round_out (fun hrr => ?_) (by intro h; cases h)
                obtain rfl := hrr
                refine ge_block_ret ?_
                refine ge_seq_ret ?_
                refine ge_seq_ret ?_
                obtain rfl := some_inj hr
                exact ge_result trivial (ResOk.cell (v := .agg #[.string (⟨#[]⟩ : ByteArray), .string (⟨#[]⟩ : ByteArray), .int .i64 0, .slice none 0 0, .slice none 0 0]) (by kernel_rfl) (loadR_agg (cs := [.string (⟨#[]⟩ : ByteArray), .string (⟨#[]⟩ : ByteArray), .int .i64 0, .slice none 0 0, .slice none 0 0]) (by kernel_rfl) (RunAt.take hf79 5)) (ResOk.tmp (by kernel_rfl) ResOk.nil)) (Imm.trans (Imm.trans hI41 hI69) hJ77) ⟨none, 0, none, 0, RepS.nil _ _, RepS.nil _ _, rfl, rfl⟩
              · have hb40 := cond_f hc75 hb40
                refine gk_skip (by kernel_rfl) ?_
                refine ge_seq ?_
                refine gk_seq (by kernel_rfl) ?_
                refine gk_region (by kernel_rfl) ?_
                refine gl_pure 2 [0, 2, 4, 6, 10, 11] (K' := [(0, .slice A0_0 a0.length n0_0), (2, .pointer (some ⟨g1, 0, none⟩)), (4, .pointer (some ⟨g2, 0, none⟩)), (6, .int .i64 y67.2.1), (10, .int .i64 s38.2.2.2), (11, .int .u64 y67.1)]) (by kernel_rfl) ?_
                refine gl_atE (by kernel_rfl) ?_
                refine ge_seq ?_
                refine gk_seq (by kernel_rfl) ?_
                refine gk_region (by kernel_rfl) ?_
                refine gl_pure 1 [0, 2, 4, 6, 10, 11, 14] (K' := [(0, .slice A0_0 a0.length n0_0), (2, .pointer (some ⟨g1, 0, none⟩)), (4, .pointer (some ⟨g2, 0, none⟩)), (6, .int .i64 y67.2.1), (10, .int .i64 s38.2.2.2), (11, .int .u64 y67.1), (14, .slice none 0 0)]) (by kernel_rfl) ?_
                refine gl_atE (by kernel_rfl) ?_
                refine ge_seq ?_
                refine gk_seq (by kernel_rfl) ?_
                refine gk_seq (by kernel_rfl) ?_
                refine gk_region (by kernel_rfl) ?_
                refine gl_pure 1 [0, 2, 4, 6, 10, 11, 14, 15] (K' := [(0, .slice A0_0 a0.length n0_0), (2, .pointer (some ⟨g1, 0, none⟩)), (4, .pointer (some ⟨g2, 0, none⟩)), (6, .int .i64 y67.2.1), (10, .int .i64 s38.2.2.2), (11, .int .u64 y67.1), (14, .slice none 0 0), (15, .int .u64 0)]) (by kernel_rfl) ?_
                refine gl_atE (by kernel_rfl) ?_
                refine ge_seq ?_
                obtain ⟨r88, hl89, hb40⟩ := bind_some hb40
                refine gk_join (fun t I' L' => ∃ r100, r88 = Sum.inl r100 ∧ ∃ A102 n103 C104, OwnS (Kd.sl kS79) 36 I' A102 n103 r100.2 C104 ∧ I73 ≤ I' ∧ C104 ++ (C44 ++ (C48 ++ ((g2, .cells #[.string y3.1, .string y10.1, .int .i64 y17.1, .slice A42 s38.1.length n43, .slice A46 s38.2.1.length n47] 24) :: ((g1, .cells #[.string (⟨#[]⟩ : ByteArray), .string (⟨#[]⟩ : ByteArray), .int .i64 0, .slice none 0 0, .slice none 0 0] 24) :: L)))) = L' ∧ Knows 110 [(0, .slice A0_0 a0.length n0_0), (2, .pointer (some ⟨g1, 0, none⟩)), (4, .pointer (some ⟨g2, 0, none⟩)), (6, .int .i64 r100.1), (10, .int .i64 s38.2.2.2), (14, .slice A102 r100.2.length n103)] t) ?_ ?_
                · refine gk_block (by kernel_rfl) ?_
                  refine gk_pick [0, 2, 4, 6, 10, 11, 14, 15] (K' := [(0, .slice A0_0 a0.length n0_0), (2, .pointer (some ⟨g1, 0, none⟩)), (4, .pointer (some ⟨g2, 0, none⟩)), (6, .int .i64 y67.2.1), (10, .int .i64 s38.2.2.2), (11, .int .u64 y67.1), (14, .slice none 0 0), (15, .int .u64 0)]) (by kernel_rfl) ?_
                  intro t hK
                  refine gc_loop (tocsinref26_Read_l108 a0 y67) (fun s90 t I' L' => ∃ A94 n95 C96, OwnS (Kd.sl kS79) 36 I' A94 n95 s90.2.1 C96 ∧ I73 ≤ I' ∧ C96 ++ (C44 ++ (C48 ++ ((g2, .cells #[.string y3.1, .string y10.1, .int .i64 y17.1, .slice A42 s38.1.length n43, .slice A46 s38.2.1.length n47] 24) :: ((g1, .cells #[.string (⟨#[]⟩ : ByteArray), .string (⟨#[]⟩ : ByteArray), .int .i64 0, .slice none 0 0, .slice none 0 0] 24) :: L)))) = L' ∧ Knows 110 [(0, .slice A0_0 a0.length n0_0), (2, .pointer (some ⟨g1, 0, none⟩)), (4, .pointer (some ⟨g2, 0, none⟩)), (6, .int .i64 s90.1), (10, .int .i64 s38.2.2.2), (11, .int .u64 y67.1), (14, .slice A94 s90.2.1.length n95), (15, .int .u64 s90.2.2)] t) (by kernel_rfl) ?_ hl89 ⟨none, 0, [], OwnS.nil _ _ _ _, (Imm.refl _), rfl, hK⟩
                  rintro s90 o91 t I99 L' hb92 ⟨A94, n95, C96, hO97, hI93, rfl, hK98⟩
                  unfold tocsinref26_Read_l108 at hb92
                  refine gk_at hK98 ?_
                  refine gk_seq (by kernel_rfl) ?_
                  refine gk_seq (by kernel_rfl) ?_
                  refine gk_region (by kernel_rfl) ?_
                  refine gl_pure 3 [0, 2, 4, 6, 10, 11, 14, 15, 75] (K' := [(0, .slice A0_0 a0.length n0_0), (2, .pointer (some ⟨g1, 0, none⟩)), (4, .pointer (some ⟨g2, 0, none⟩)), (6, .int .i64 s90.1), (10, .int .i64 s38.2.2.2), (11, .int .u64 y67.1), (14, .slice A94 s90.2.1.length n95), (15, .int .u64 s90.2.2), (75, .bool (decide (s90.2.2 < y67.1)))]) (by kernel_rfl) ?_
                  refine gl_atE (by kernel_rfl) ?_
                  refine ge_seq ?_
                  refine gk_cond (b := (decide (s90.2.2 < y67.1))) (by kernel_rfl) (by kernel_rfl) (fun hc110 => ?_) (fun hc110 => ?_)
                  · have hb92 := cond_t hc110 hb92
                    refine gk_skip (by kernel_rfl) ?_
                    refine ge_seq ?_
                    refine gk_seq (by kernel_rfl) ?_
                    refine gk_block (by kernel_rfl) ?_
                    refine gk_seq (by kernel_rfl) ?_
                    refine gk_region (by kernel_rfl) ?_
                    refine gl_pure 2 [0, 2, 4, 10, 11, 14, 15, 79, 80] (K' := [(0, .slice A0_0 a0.length n0_0), (2, .pointer (some ⟨g1, 0, none⟩)), (4, .pointer (some ⟨g2, 0, none⟩)), (10, .int .i64 s38.2.2.2), (11, .int .u64 y67.1), (14, .slice A94 s90.2.1.length n95), (15, .int .u64 s90.2.2), (79, .slice A0_0 a0.length n0_0), (80, .int .i64 s90.1)]) (by kernel_rfl) ?_
                    obtain ⟨y111, hx112, hb92⟩ := bind_some hb92
                    refine gl_call (by kernel_rfl) (tocsinref04_Read_walk (r := y111) (hf0_0.mono (Imm.trans (Imm.trans hI41 hI69) hI93)) hx112 _) ?_
                    rintro v I113 L114 hI115 ⟨A116, c117, C118, hO119, rfl, rfl⟩
                    refine gl_pure 7 [0, 2, 4, 10, 11, 14, 15, 16, 17, 18] (K' := [(0, .slice A0_0 a0.length n0_0), (2, .pointer (some ⟨g1, 0, none⟩)), (4, .pointer (some ⟨g2, 0, none⟩)), (10, .int .i64 s38.2.2.2), (11, .int .u64 y67.1), (14, .slice A94 s90.2.1.length n95), (15, .int .u64 s90.2.2), (16, .slice A116 y111.1.length c117), (17, .int .i64 y111.2.1), (18, .int .i64 y111.2.2)]) (by kernel_rfl) ?_
                    refine gl_atE (by kernel_rfl) ?_
                    refine ge_seq ?_
                    refine gk_seq (by kernel_rfl) ?_
                    refine gk_seq (by kernel_rfl) ?_
                    refine gk_region (by kernel_rfl) ?_
                    refine gl_pure 2 [0, 2, 4, 10, 11, 14, 15, 16, 17, 86] (K' := [(0, .slice A0_0 a0.length n0_0), (2, .pointer (some ⟨g1, 0, none⟩)), (4, .pointer (some ⟨g2, 0, none⟩)), (10, .int .i64 s38.2.2.2), (11, .int .u64 y67.1), (14, .slice A94 s90.2.1.length n95), (15, .int .u64 s90.2.2), (16, .slice A116 y111.1.length c117), (17, .int .i64 y111.2.1), (86, .bool (y111.2.2 != 0))]) (by kernel_rfl) ?_
                    refine gl_atE (by kernel_rfl) ?_
                    refine ge_seq ?_
                    refine gk_cond (b := (y111.2.2 != 0)) (by kernel_rfl) (by kernel_rfl) (fun hc120 => ?_) (fun hc120 => ?_)
                    · have hb92 := cond_t hc120 hb92
                      refine gk_seq (by kernel_rfl) ?_
                      refine gk_region (by kernel_rfl) ?_
                      refine gl_pure 1 [2, 87] (K' := [(2, .pointer (some ⟨g1, 0, none⟩)), (87, .agg #[.string (⟨#[]⟩ : ByteArray), .string (⟨#[]⟩ : ByteArray), .int .i64 0, .slice none 0 0, .slice none 0 0])]) (by kernel_rfl) ?_
                      refine gl_storeB (T' := 24) (xp := (.tmp 2)) (xv := (.tmp 87)) (v := .agg #[.string (⟨#[]⟩ : ByteArray), .string (⟨#[]⟩ : ByteArray), .int .i64 0, .slice none 0 0, .slice none 0 0]) (g := g1) (off := 0) (cs := #[.string (⟨#[]⟩ : ByteArray), .string (⟨#[]⟩ : ByteArray), .int .i64 0, .slice none 0 0, .slice none 0 0]) (cs' := #[.string (⟨#[]⟩ : ByteArray), .string (⟨#[]⟩ : ByteArray), .int .i64 0, .slice none 0 0, .slice none 0 0]) (by kernel_rfl) (by kernel_rfl) (by kernel_rfl) (by kernel_rfl) (by kernel_rfl) (Upd.app _ (Upd.app _ (Upd.app _ (Upd.app _ (Upd.one _ (Upd.set _ _ _ _)))))) ?_ (by kernel_rfl)
                      refine gl_pure 1 [2, 3] (K' := [(2, .pointer (some ⟨g1, 0, none⟩)), (3, .int .i64 3)]) (by kernel_rfl) ?_
                      refine gl_atE (by kernel_rfl) ?_
                      refine ge_seq ?_
                      refine gk_rest (Tk.step (Upd.app _ (Upd.app _ (Upd.app _ (Upd.app _ (Upd.one _ (Upd.rm1 _ _)))))) (Tk.nil _)) (fun J121 hJ122 hC123 => ?_)
                      have hf124 := hC123.left.blk
                      refine gk_reord (D := L) (Reord.skipC (Reord.skipC (Reord.skipC (Reord.skipC (Reord.skip (Reord.refl _)))))) ?_
                      refine gk_ret (by kernel_rfl) ?_
                      refine ge_seq_ret ?_
                      refine ge_block_ret ?_
                      refine ge_seq_ret ?_
                      obtain rfl := some_inj hb92
                      refine ge_round_out (fun hrr => ?_) (by intro h; cases h)
                      obtain rfl := hrr
                      refine ge_block_ret ?_
                      refine ge_seq_ret ?_
                      refine ge_seq_ret ?_
                      refine ge_block_ret ?_
                      refine ge_seq_ret ?_
                      obtain rfl := some_inj hb40
                      refine ge_round_out (fun hrr => ?_) (by intro h; cases h)
                      obtain rfl := hrr
                      refine ge_block_ret ?_
                      refine ge_seq_ret ?_
                      refine ge_seq_ret ?_
                      obtain rfl := some_inj hr
                      exact ge_result trivial (ResOk.cell (v := .agg #[.string (⟨#[]⟩ : ByteArray), .string (⟨#[]⟩ : ByteArray), .int .i64 0, .slice none 0 0, .slice none 0 0]) (by kernel_rfl) (loadR_agg (cs := [.string (⟨#[]⟩ : ByteArray), .string (⟨#[]⟩ : ByteArray), .int .i64 0, .slice none 0 0, .slice none 0 0]) (by kernel_rfl) (RunAt.take hf124 5)) (ResOk.tmp (by kernel_rfl) ResOk.nil)) (Imm.trans (Imm.trans (Imm.trans (Imm.trans hI41 hI69) hI93) hI115) hJ122) ⟨none, 0, none, 0, RepS.nil _ _, RepS.nil _ _, rfl, rfl⟩
                    · have hb92 := cond_f hc120 hb92
                      refine gk_skip (by kernel_rfl) ?_
                      refine ge_seq ?_
                      refine gk_seq (by kernel_rfl) ?_
                      refine gk_region (by kernel_rfl) ?_
                      refine gl_pure 2 [0, 2, 4, 6, 10, 11, 14, 15, 16] (K' := [(0, .slice A0_0 a0.length n0_0), (2, .pointer (some ⟨g1, 0, none⟩)), (4, .pointer (some ⟨g2, 0, none⟩)), (6, .int .i64 y111.2.1), (10, .int .i64 s38.2.2.2), (11, .int .u64 y67.1), (14, .slice A94 s90.2.1.length n95), (15, .int .u64 s90.2.2), (16, .slice A116 y111.1.length c117)]) (by kernel_rfl) ?_
                      refine gl_atE (by kernel_rfl) ?_
                      refine ge_seq ?_
                      refine gk_region (by kernel_rfl) ?_
                      refine gl_pure 2 [0, 2, 4, 6, 10, 11, 15, 89, 90] (K' := [(0, .slice A0_0 a0.length n0_0), (2, .pointer (some ⟨g1, 0, none⟩)), (4, .pointer (some ⟨g2, 0, none⟩)), (6, .int .i64 y111.2.1), (10, .int .i64 s38.2.2.2), (11, .int .u64 y67.1), (15, .int .u64 s90.2.2), (89, .slice A94 s90.2.1.length n95), (90, .slice A116 y111.1.length c117)]) (by kernel_rfl) ?_
                      refine gl_rest (Tk.step (Upd.rmC _ _) (Tk.nil _)) (fun J125 hJ126 hC127 => ?_)
                      have hf128 := (OwnS.rest hO119 hJ126 hC127.left)
                      refine gl_buildSlice (T' := 22) (e := 36) (n := 1) (len := 1) (parts := #[(0, (.tmp 90))]) (l := [(0, .slice A116 y111.1.length c117)]) (cs := #[.slice A116 y111.1.length c117]) (by kernel_rfl) (by kernel_rfl) (by kernel_rfl) (by kernel_rfl) (by kernel_rfl) (fun g129 => ?_)
                      have hO130 : OwnS (Kd.sl kS79) 36 J125 (some ⟨g129, 0, none⟩) 1 [y111.1] [(g129, .cells #[.slice A116 y111.1.length c117] 36)] := OwnS.lit (row_cons (l := [.slice A116 y111.1.length c117]) ⟨_, _, rfl, hf128⟩ (row_nil _ _)) rfl rfl rfl
                      refine gl_reord (D := [(g129, .cells #[.slice A116 y111.1.length c117] 36)] ++ (C96 ++ (C44 ++ (C48 ++ ((g2, .cells #[.string y3.1, .string y10.1, .int .i64 y17.1, .slice A42 s38.1.length n43, .slice A46 s38.2.1.length n47] 24) :: ((g1, .cells #[.string (⟨#[]⟩ : ByteArray), .string (⟨#[]⟩ : ByteArray), .int .i64 0, .slice none 0 0, .slice none 0 0] 24) :: L)))))) (Reord.refl _) ?_
                      obtain ⟨zs133, hz134, hb92⟩ := bind_some hb92
                      refine gl_append (xv := .slice (some ⟨g129, 0, none⟩) [y111.1].length 1) (d := (Kd.sl kS79)) (t := 22) (tx := 22) (e := 36) (s := (.tmp 89)) (x := (.tmp 91)) (xs := s90.2.1) (fun X => [(g129, .cells #[.slice A116 y111.1.length c117] 36)] ++ (X ++ (C44 ++ (C48 ++ ((g2, .cells #[.string y3.1, .string y10.1, .int .i64 y17.1, .slice A42 s38.1.length n43, .slice A46 s38.2.1.length n47] 24) :: ((g1, .cells #[.string (⟨#[]⟩ : ByteArray), .string (⟨#[]⟩ : ByteArray), .int .i64 0, .slice none 0 0, .slice none 0 0] 24) :: L)))))) hz134 (by kernel_rfl) (by kernel_rfl) (by kernel_rfl) (by kernel_rfl) (by kernel_rfl) (by kernel_rfl) (fun X => (Upd.app _ (Upd.head _ X _))) (hO97.mono (Imm.trans hI115 hJ126)) (SrcOk.slice (c := 1) (e := 36) (n := 1) (OwnS.rd hO130 (Upd.selfC _ _)) (by kernel_rfl)) (fun A135 n136 C137 hO138 => ?_)
                      refine gl_pure 1 [0, 2, 4, 6, 10, 11, 14, 15] (K' := [(0, .slice A0_0 a0.length n0_0), (2, .pointer (some ⟨g1, 0, none⟩)), (4, .pointer (some ⟨g2, 0, none⟩)), (6, .int .i64 y111.2.1), (10, .int .i64 s38.2.2.2), (11, .int .u64 y67.1), (14, .slice A135 zs133.length n136), (15, .int .u64 s90.2.2)]) (by kernel_rfl) ?_
                      refine gl_atE (by kernel_rfl) ?_
                      refine ge_block_normal ?_
                      refine ge_seq ?_
                      refine gk_region (by kernel_rfl) ?_
                      refine gl_pure 3 [0, 2, 4, 6, 10, 11, 14, 15] (K' := [(0, .slice A0_0 a0.length n0_0), (2, .pointer (some ⟨g1, 0, none⟩)), (4, .pointer (some ⟨g2, 0, none⟩)), (6, .int .i64 y111.2.1), (10, .int .i64 s38.2.2.2), (11, .int .u64 y67.1), (14, .slice A135 zs133.length n136), (15, .int .u64 (IntKind.wrap .u64 (s90.2.2 + 1)))]) (by kernel_rfl) ?_
                      refine gl_reord (D := C137 ++ (C44 ++ (C48 ++ ((g2, .cells #[.string y3.1, .string y10.1, .int .i64 y17.1, .slice A42 s38.1.length n43, .slice A46 s38.2.1.length n47] 24) :: ((g1, .cells #[.string (⟨#[]⟩ : ByteArray), .string (⟨#[]⟩ : ByteArray), .int .i64 0, .slice none 0 0, .slice none 0 0] 24) :: L))))) (Reord.step (Upd.app _ (Upd.rmC _ _)) (Reord.step (Upd.app _ (Upd.rmC _ _)) (Reord.step (Upd.app _ (Upd.rmC _ _)) (Reord.step1 (Upd.app _ (Upd.rm1 _ _)) (Reord.step1 (Upd.app _ (Upd.rm1 _ _)) (Reord.skipC (Reord.refl _))))))) ?_
                      refine gl_atE (by kernel_rfl) ?_
                      obtain rfl := some_inj hb92
                      exact ge_round fun t ht => ⟨A135, n136, C137, hO138, (Imm.trans (Imm.trans hI93 hI115) hJ126), rfl, ht.pick (l := [0, 2, 4, 6, 10, 11, 14, 15]) (by kernel_rfl)⟩
                  · have hb92 := cond_f hc110 hb92
                    refine gk_exit (by kernel_rfl) ?_
                    refine ge_seq_exit ?_
                    obtain rfl := some_inj hb92
                    refine ge_round_out (fun hrr => ?_) (by intro h; cases h)
                    obtain rfl := hrr
                    refine ge_block_hit (by kernel_rfl) ?_
                    exact ge_mid fun t ht => ⟨_, rfl, A94, n95, C96, hO97, hI93, rfl, ht.pick (l := [0, 2, 4, 6, 10, 14]) (by kernel_rfl)⟩
                · rintro t I107 L' ⟨r100, rfl, A102, n103, C104, hO105, hI101, rfl, hK106⟩
                  refine ge_at hK106 ?_
                  refine ge_seq ?_
                  refine gk_seq (by kernel_rfl) ?_
                  refine gk_region (by kernel_rfl) ?_
                  refine gl_pure 2 [0, 2, 4, 6, 10, 14, 94] (K' := [(0, .slice A0_0 a0.length n0_0), (2, .pointer (some ⟨g1, 0, none⟩)), (4, .pointer (some ⟨g2, 0, none⟩)), (6, .int .i64 r100.1), (10, .int .i64 s38.2.2.2), (14, .slice A102 r100.2.length n103), (94, .bool (s38.2.2.2 == 0))]) (by kernel_rfl) ?_
                  refine gl_atE (by kernel_rfl) ?_
                  refine ge_seq ?_
                  obtain ⟨j139, hj140, hb40⟩ := bind_some hb40
                  refine gk_join (fun t I' L' => ∃ A142 n143 C144 A146 n147 C148, OwnS (Kd.sl kS79) 36 I' A142 n143 j139.1 C144 ∧ OwnS (Kd.sl kS79) 36 I' A146 n147 j139.2 C148 ∧ I107 ≤ I' ∧ C144 ++ (C148 ++ ((g2, .cells #[.string y3.1, .string y10.1, .int .i64 y17.1, .slice A142 j139.1.length n143, .slice A146 j139.2.length n147] 24) :: ((g1, .cells #[.string (⟨#[]⟩ : ByteArray), .string (⟨#[]⟩ : ByteArray), .int .i64 0, .slice none 0 0, .slice none 0 0] 24) :: L))) = L' ∧ Knows 110 [(0, .slice A0_0 a0.length n0_0), (2, .pointer (some ⟨g1, 0, none⟩)), (4, .pointer (some ⟨g2, 0, none⟩)), (6, .int .i64 r100.1), (10, .int .i64 s38.2.2.2)] t) ?_ ?_
                  · refine gk_cond (b := (s38.2.2.2 == 0)) (by kernel_rfl) (by kernel_rfl) (fun hc152 => ?_) (fun hc152 => ?_)
                    · have hj140 := cond_t hc152 hj140
                      refine gk_region (by kernel_rfl) ?_
                      refine gl_pure 2 [0, 2, 4, 6, 10, 95, 96] (K' := [(0, .slice A0_0 a0.length n0_0), (2, .pointer (some ⟨g1, 0, none⟩)), (4, .pointer (some ⟨g2, 0, none⟩)), (6, .int .i64 r100.1), (10, .int .i64 s38.2.2.2), (95, .slice A102 r100.2.length n103), (96, .pointer (some ⟨g2, 3, none⟩))]) (by kernel_rfl) ?_
                      refine gl_storeB (T' := 22) (xp := (.tmp 96)) (xv := (.tmp 95)) (v := .slice A102 r100.2.length n103) (g := g2) (off := 3) (cs := #[.string y3.1, .string y10.1, .int .i64 y17.1, .slice A42 s38.1.length n43, .slice A46 s38.2.1.length n47]) (cs' := #[.string y3.1, .string y10.1, .int .i64 y17.1, .slice A102 r100.2.length n103, .slice A46 s38.2.1.length n47]) (by kernel_rfl) (by kernel_rfl) (by kernel_rfl) (by kernel_rfl) (by kernel_rfl) (Upd.app _ (Upd.app _ (Upd.app _ (Upd.set _ _ _ _)))) ?_ (by kernel_rfl)
                      refine gl_reord (D := C104 ++ (C48 ++ ((g2, .cells #[.string y3.1, .string y10.1, .int .i64 y17.1, .slice A102 r100.2.length n103, .slice A46 s38.2.1.length n47] 24) :: ((g1, .cells #[.string (⟨#[]⟩ : ByteArray), .string (⟨#[]⟩ : ByteArray), .int .i64 0, .slice none 0 0, .slice none 0 0] 24) :: L)))) (Reord.step (Upd.rmC _ _) (Reord.step (Upd.app _ (Upd.rmC _ _)) (Reord.step1 (Upd.app _ (Upd.rm1 _ _)) (Reord.step1 (Upd.app _ (Upd.rm1 _ _)) (Reord.skipC (Reord.refl _)))))) ?_
                      refine gl_atE (by kernel_rfl) ?_
                      obtain rfl := some_inj hj140
                      exact ge_mid fun t ht => ⟨A102, n103, C104, A46, n47, C48, hO105, (hO49.mono (Imm.trans hI69 hI101)), (Imm.refl _), rfl, ht.pick (l := [0, 2, 4, 6, 10]) (by kernel_rfl)⟩
                    · have hj140 := cond_f hc152 hj140
                      refine gk_region (by kernel_rfl) ?_
                      refine gl_pure 2 [0, 2, 4, 6, 10, 97, 98] (K' := [(0, .slice A0_0 a0.length n0_0), (2, .pointer (some ⟨g1, 0, none⟩)), (4, .pointer (some ⟨g2, 0, none⟩)), (6, .int .i64 r100.1), (10, .int .i64 s38.2.2.2), (97, .slice A102 r100.2.length n103), (98, .pointer (some ⟨g2, 4, none⟩))]) (by kernel_rfl) ?_
                      refine gl_storeB (T' := 22) (xp := (.tmp 98)) (xv := (.tmp 97)) (v := .slice A102 r100.2.length n103) (g := g2) (off := 4) (cs := #[.string y3.1, .string y10.1, .int .i64 y17.1, .slice A42 s38.1.length n43, .slice A46 s38.2.1.length n47]) (cs' := #[.string y3.1, .string y10.1, .int .i64 y17.1, .slice A42 s38.1.length n43, .slice A102 r100.2.length n103]) (by kernel_rfl) (by kernel_rfl) (by kernel_rfl) (by kernel_rfl) (by kernel_rfl) (Upd.app _ (Upd.app _ (Upd.app _ (Upd.set _ _ _ _)))) ?_ (by kernel_rfl)
                      refine gl_reord (D := C44 ++ (C104 ++ ((g2, .cells #[.string y3.1, .string y10.1, .int .i64 y17.1, .slice A42 s38.1.length n43, .slice A102 r100.2.length n103] 24) :: ((g1, .cells #[.string (⟨#[]⟩ : ByteArray), .string (⟨#[]⟩ : ByteArray), .int .i64 0, .slice none 0 0, .slice none 0 0] 24) :: L)))) (Reord.step (Upd.app _ (Upd.rmC _ _)) (Reord.step (Upd.rmC _ _) (Reord.step1 (Upd.app _ (Upd.rm1 _ _)) (Reord.step1 (Upd.app _ (Upd.rm1 _ _)) (Reord.skipC (Reord.refl _)))))) ?_
                      refine gl_atE (by kernel_rfl) ?_
                      obtain rfl := some_inj hj140
                      exact ge_mid fun t ht => ⟨A42, n43, C44, A102, n103, C104, (hO45.mono (Imm.trans hI69 hI101)), hO105, (Imm.refl _), rfl, ht.pick (l := [0, 2, 4, 6, 10]) (by kernel_rfl)⟩
                  · rintro t I151 L' ⟨A142, n143, C144, A146, n147, C148, hO145, hO149, hI141, rfl, hK150⟩
                    refine ge_at hK150 ?_
                    refine ge_block_normal ?_
                    refine ge_seq ?_
                    refine gk_region (by kernel_rfl) ?_
                    refine gl_pure 3 [0, 2, 4, 6, 10] (K' := [(0, .slice A0_0 a0.length n0_0), (2, .pointer (some ⟨g1, 0, none⟩)), (4, .pointer (some ⟨g2, 0, none⟩)), (6, .int .i64 r100.1), (10, .int .i64 (IntKind.wrap .i64 (s38.2.2.2 + 1)))]) (by kernel_rfl) ?_
                    refine gl_atE (by kernel_rfl) ?_
                    obtain rfl := some_inj hb40
                    exact ge_round fun t ht => ⟨A142, n143, C144, A146, n147, C148, hO145, hO149, (Imm.trans (Imm.trans (Imm.trans hI41 hI69) hI101) hI141), rfl, ht.pick (l := [0, 2, 4, 6, 10]) (by kernel_rfl)⟩
          · have hb40 := cond_f hc66 hb40
            refine gk_exit (by kernel_rfl) ?_
            refine ge_seq_exit ?_
            obtain rfl := some_inj hb40
            refine ge_round_out (fun hrr => ?_) (by intro h; cases h)
            obtain rfl := hrr
            refine ge_block_hit (by kernel_rfl) ?_
            exact ge_mid fun t ht => ⟨_, rfl, A42, n43, C44, A46, n47, C48, hO45, hO49, hI41, rfl, ht.pick (l := [0, 2, 4, 6]) (by kernel_rfl)⟩
        · rintro t I63 L' ⟨r52, rfl, A54, n55, C56, A58, n59, C60, hO57, hO61, hI53, rfl, hK62⟩
          refine ge_at hK62 ?_
          refine ge_seq ?_
          refine gk_seq (by kernel_rfl) ?_
          refine gk_seq (by kernel_rfl) ?_
          obtain ⟨j154, hj155, hr⟩ := bind_some hr
          refine gk_join (fun t I' L' => I63 ≤ I' ∧ C56 ++ (C60 ++ ((g2, .cells #[.string y3.1, .string y10.1, .int .i64 y17.1, .slice A54 r52.2.1.length n55, .slice A58 r52.2.2.length n59] 24) :: ((g1, .cells #[.string (⟨#[]⟩ : ByteArray), .string (⟨#[]⟩ : ByteArray), .int .i64 0, .slice none 0 0, .slice none 0 0] 24) :: L))) = L' ∧ Knows 110 [(2, .pointer (some ⟨g1, 0, none⟩)), (4, .pointer (some ⟨g2, 0, none⟩)), (107, .bool j154)] t) ?_ ?_
          · refine gk_region (by kernel_rfl) ?_
            refine gl_pure 5 [2, 4, 103] (K' := [(2, .pointer (some ⟨g1, 0, none⟩)), (4, .pointer (some ⟨g2, 0, none⟩)), (103, .bool (r52.1 != (a0.length : Int)))]) (by kernel_rfl) ?_
            refine gl_case 103 (b := (r52.1 != (a0.length : Int))) (by kernel_rfl) (fun hc159 => ?_) (fun hc159 => ?_)
            · have hj155 := cond_t hc159 hj155
              refine gl_pure 4 [2, 4, 107] (K' := [(2, .pointer (some ⟨g1, 0, none⟩)), (4, .pointer (some ⟨g2, 0, none⟩)), (107, .bool true)]) (by kernel_rfl) ?_
              refine gl_atE (by kernel_rfl) ?_
              obtain rfl := some_inj hj155
              exact ge_mid fun t ht => ⟨(Imm.refl _), rfl, ht.pick (l := [2, 4, 107]) (by kernel_rfl)⟩
            · have hj155 := cond_f hc159 hj155
              refine gl_loadB (T' := 24) (xp := (.tmp 4)) (v := .agg #[.string y3.1, .string y10.1, .int .i64 y17.1, .slice A54 r52.2.1.length n55, .slice A58 r52.2.2.length n59]) (g := g2) (off := 0) (cs := #[.string y3.1, .string y10.1, .int .i64 y17.1, .slice A54 r52.2.1.length n55, .slice A58 r52.2.2.length n59]) (e := 24) (fz := (0, 0)) (by kernel_rfl) (by kernel_rfl) (by kernel_rfl) (List.mem_append_right _ (List.mem_append_right _ List.mem_cons_self)) (by kernel_rfl) ?_
              obtain ⟨y160, hx161, hj155⟩ := bind_some hj155
              refine gl_callB (r := .int .i64 y160) (Tk.step (Upd.rmC _ _) (Tk.step (Upd.rmC _ _) (Tk.nil _))) (by kernel_rfl) (fun J hJ hC => tocsinref26_Right_walk (r := y160) (OwnS.rest hO57 hJ hC.left) (OwnS.rest hO61 hJ hC.right.left) hx161 _) ?_
              refine gl_pure 2 [2, 4, 107] (K' := [(2, .pointer (some ⟨g1, 0, none⟩)), (4, .pointer (some ⟨g2, 0, none⟩)), (107, .bool (y160 != 0))]) (by kernel_rfl) ?_
              refine gl_atE (by kernel_rfl) ?_
              obtain rfl := some_inj hj155
              exact ge_mid fun t ht => ⟨(Imm.refl _), rfl, ht.pick (l := [2, 4, 107]) (by kernel_rfl)⟩
          · rintro t I158 L' ⟨hI156, rfl, hK157⟩
            refine ge_at hK157 ?_
            refine ge_seq ?_
            refine gk_cond (b := j154) (by kernel_rfl) (by kernel_rfl) (fun hc162 => ?_) (fun hc162 => ?_)
            · have hr := cond_t hc162 hr
              refine gk_seq (by kernel_rfl) ?_
              refine gk_region (by kernel_rfl) ?_
              refine gl_pure 1 [2, 108] (K' := [(2, .pointer (some ⟨g1, 0, none⟩)), (108, .agg #[.string (⟨#[]⟩ : ByteArray), .string (⟨#[]⟩ : ByteArray), .int .i64 0, .slice none 0 0, .slice none 0 0])]) (by kernel_rfl) ?_
              refine gl_storeB (T' := 24) (xp := (.tmp 2)) (xv := (.tmp 108)) (v := .agg #[.string (⟨#[]⟩ : ByteArray), .string (⟨#[]⟩ : ByteArray), .int .i64 0, .slice none 0 0, .slice none 0 0]) (g := g1) (off := 0) (cs := #[.string (⟨#[]⟩ : ByteArray), .string (⟨#[]⟩ : ByteArray), .int .i64 0, .slice none 0 0, .slice none 0 0]) (cs' := #[.string (⟨#[]⟩ : ByteArray), .string (⟨#[]⟩ : ByteArray), .int .i64 0, .slice none 0 0, .slice none 0 0]) (by kernel_rfl) (by kernel_rfl) (by kernel_rfl) (by kernel_rfl) (by kernel_rfl) (Upd.app _ (Upd.app _ (Upd.one _ (Upd.set _ _ _ _)))) ?_ (by kernel_rfl)
              refine gl_pure 1 [2, 3] (K' := [(2, .pointer (some ⟨g1, 0, none⟩)), (3, .int .i64 3)]) (by kernel_rfl) ?_
              refine gl_atE (by kernel_rfl) ?_
              refine ge_seq ?_
              refine gk_rest (Tk.step (Upd.app _ (Upd.app _ (Upd.one _ (Upd.rm1 _ _)))) (Tk.nil _)) (fun J163 hJ164 hC165 => ?_)
              have hf166 := hC165.left.blk
              refine gk_reord (D := L) (Reord.skipC (Reord.skipC (Reord.skip (Reord.refl _)))) ?_
              refine gk_ret (by kernel_rfl) ?_
              refine ge_seq_ret ?_
              obtain rfl := some_inj hr
              exact ge_result trivial (ResOk.cell (v := .agg #[.string (⟨#[]⟩ : ByteArray), .string (⟨#[]⟩ : ByteArray), .int .i64 0, .slice none 0 0, .slice none 0 0]) (by kernel_rfl) (loadR_agg (cs := [.string (⟨#[]⟩ : ByteArray), .string (⟨#[]⟩ : ByteArray), .int .i64 0, .slice none 0 0, .slice none 0 0]) (by kernel_rfl) (RunAt.take hf166 5)) (ResOk.tmp (by kernel_rfl) ResOk.nil)) (Imm.trans (Imm.trans hI53 hI156) hJ164) ⟨none, 0, none, 0, RepS.nil _ _, RepS.nil _ _, rfl, rfl⟩
            · have hr := cond_f hc162 hr
              refine gk_skip (by kernel_rfl) ?_
              refine ge_seq ?_
              refine gk_seq (by kernel_rfl) ?_
              refine gk_region (by kernel_rfl) ?_
              refine gl_loadB (T' := 24) (xp := (.tmp 4)) (v := .agg #[.string y3.1, .string y10.1, .int .i64 y17.1, .slice A54 r52.2.1.length n55, .slice A58 r52.2.2.length n59]) (g := g2) (off := 0) (cs := #[.string y3.1, .string y10.1, .int .i64 y17.1, .slice A54 r52.2.1.length n55, .slice A58 r52.2.2.length n59]) (e := 24) (fz := (0, 0)) (by kernel_rfl) (by kernel_rfl) (by kernel_rfl) (List.mem_append_right _ (List.mem_append_right _ List.mem_cons_self)) (by kernel_rfl) ?_
              refine gl_storeB (T' := 24) (xp := (.tmp 2)) (xv := (.tmp 109)) (v := .agg #[.string y3.1, .string y10.1, .int .i64 y17.1, .slice A54 r52.2.1.length n55, .slice A58 r52.2.2.length n59]) (g := g1) (off := 0) (cs := #[.string (⟨#[]⟩ : ByteArray), .string (⟨#[]⟩ : ByteArray), .int .i64 0, .slice none 0 0, .slice none 0 0]) (cs' := #[.string y3.1, .string y10.1, .int .i64 y17.1, .slice A54 r52.2.1.length n55, .slice A58 r52.2.2.length n59]) (by kernel_rfl) (by kernel_rfl) (by kernel_rfl) (by kernel_rfl) (by kernel_rfl) (Upd.app _ (Upd.app _ (Upd.one _ (Upd.set _ _ _ _)))) ?_ (by kernel_rfl)
              refine gl_pure 1 [2, 3] (K' := [(2, .pointer (some ⟨g1, 0, none⟩)), (3, .int .i64 0)]) (by kernel_rfl) ?_
              refine gl_atE (by kernel_rfl) ?_
              refine ge_seq ?_
              refine gk_rest (Tk.step (Upd.rmC _ _) (Tk.step (Upd.rmC _ _) (Tk.step (Upd.one _ (Upd.rm1 _ _)) (Tk.nil _)))) (fun J167 hJ168 hC169 => ?_)
              have hf170 := (OwnS.rest (hO57.mono hI156) hJ168 hC169.left)
              have hf171 := (OwnS.rest (hO61.mono hI156) hJ168 hC169.right.left)
              have hf172 := hC169.right.right.left.blk
              refine gk_reord (D := L) (Reord.skip (Reord.refl _)) ?_
              refine gk_ret (by kernel_rfl) ?_
              obtain rfl := some_inj hr
              exact ge_result trivial (ResOk.cell (v := .agg #[.string y3.1, .string y10.1, .int .i64 y17.1, .slice A54 r52.2.1.length n55, .slice A58 r52.2.2.length n59]) (by kernel_rfl) (loadR_agg (cs := [.string y3.1, .string y10.1, .int .i64 y17.1, .slice A54 r52.2.1.length n55, .slice A58 r52.2.2.length n59]) (by kernel_rfl) (RunAt.take hf172 5)) (ResOk.tmp (by kernel_rfl) ResOk.nil)) (Imm.trans (Imm.trans hI53 hI156) hJ168) ⟨A54, n55, A58, n59, hf170, hf171, rfl, rfl⟩
/-! 77 tocsinref04_Same  -/
noncomputable def tocsinref04_Same (a0 : List S79) (a1 : List S79) : Option Bool :=
  Option.bind (tocsinref04_Compare a0 a1) fun (y1 : Int) =>
  some (y1 == 0)
theorem tocsinref04_Same_walk {a0 : List S79} {A0_0 : Option Addr} {n0_0 : Nat} {a1 : List S79} {A1_0 : Option Addr} {n1_0 : Nat} {I : Imm} {r : Bool}  (hf0_0 : RepS kS79 I A0_0 n0_0 a0)  (hf1_0 : RepS kS79 I A1_0 n1_0 a1) (hr : tocsinref04_Same a0 a1 = some r) (L : Own) :
    CallsTo Tryd.prog 77 #[.slice A0_0 a0.length n0_0, .slice A1_0 a1.length n1_0] I L (fun v I' L' => v = .bool r ∧ L = L') := by
  unfold tocsinref04_Same at hr
  refine callsTo_body (N := 9) Tryd.func77 (by kernel_rfl) (by kernel_rfl) (by kernel_rfl) ?_
  refine gk_pick [0, 1] (K' := [(0, .slice A0_0 a0.length n0_0), (1, .slice A1_0 a1.length n1_0)]) (by kernel_rfl) ?_
  refine gk_seq (by kernel_rfl) ?_
  refine gk_region (by kernel_rfl) ?_
  refine gl_pure 1 [0, 1] (K' := [(0, .slice A0_0 a0.length n0_0), (1, .slice A1_0 a1.length n1_0)]) (by kernel_rfl) ?_
  refine gl_atE (by kernel_rfl) ?_
  refine ge_seq ?_
  refine gk_seq (by kernel_rfl) ?_
  refine gk_region (by kernel_rfl) ?_
  refine gl_pure 2 [5, 6] (K' := [(5, .slice A0_0 a0.length n0_0), (6, .slice A1_0 a1.length n1_0)]) (by kernel_rfl) ?_
  obtain ⟨y1, hx2, hr⟩ := bind_some hr
  refine gl_callQ (by kernel_rfl) (tocsinref04_Compare_walk (r := y1) hf0_0 hf1_0 hx2 _) ?_
  refine gl_pure 2 [4] (K' := [(4, .bool (y1 == 0))]) (by kernel_rfl) ?_
  refine gl_atE (by kernel_rfl) ?_
  refine ge_seq ?_
  refine gk_ret (by kernel_rfl) ?_
  obtain rfl := some_inj hr
  exact ge_result trivial (ResOk.tmp (by kernel_rfl) ResOk.nil) (Imm.refl _) ⟨rfl, rfl⟩
/-! 38 tocsinref26_SameSets  -/
noncomputable def tocsinref26_SameSets_l18 (a0 : List (List S79)) (a1 : List (List S79)) : Int → Option ((Int) ⊕ ((Unit) ⊕ (Bool))) := fun s8 =>
  bif (decide (s8 < (a0.length : Int))) then
  (Option.bind (ix a0 s8) fun (x21 : List S79) =>
    Option.bind (ix a1 s8) fun (x32 : List S79) =>
    Option.bind (tocsinref04_Same x21 x32) fun (y43 : Bool) =>
    bif (!y43) then
    (some (Sum.inr (Sum.inr false)))
    else
    (some (Sum.inl (IntKind.wrap .i64 (s8 + 1)))))
  else
  (some (Sum.inr (Sum.inl ())))
noncomputable def tocsinref26_SameSets (a0 : List (List S79)) (a1 : List (List S79)) : Option Bool :=
  bif ((a0.length : Int) != (a1.length : Int)) then
  (some false)
  else
  (Option.bind (loopO (tocsinref26_SameSets_l18 a0 a1) 0) fun (r6 : (Unit) ⊕ (Bool)) =>
    match r6 with
    | Sum.inl r14 => some true
    | Sum.inr v46 => some v46)
theorem tocsinref26_SameSets_walk {a0 : List (List S79)} {A0_0 : Option Addr} {n0_0 : Nat} {a1 : List (List S79)} {A1_0 : Option Addr} {n1_0 : Nat} {I : Imm} {r : Bool}  (hf0_0 : RepS (Kd.sl kS79) I A0_0 n0_0 a0)  (hf1_0 : RepS (Kd.sl kS79) I A1_0 n1_0 a1) (hr : tocsinref26_SameSets a0 a1 = some r) (L : Own) :
    CallsTo Tryd.prog 38 #[.slice A0_0 a0.length n0_0, .slice A1_0 a1.length n1_0] I L (fun v I' L' => v = .bool r ∧ L = L') := by
  unfold tocsinref26_SameSets at hr
  refine callsTo_body (N := 27) Tryd.func38 (by kernel_rfl) (by kernel_rfl) (by kernel_rfl) ?_
  refine gk_pick [0, 1] (K' := [(0, .slice A0_0 a0.length n0_0), (1, .slice A1_0 a1.length n1_0)]) (by kernel_rfl) ?_
  refine gk_seq (by kernel_rfl) ?_
  refine gk_region (by kernel_rfl) ?_
  refine gl_pure 1 [0, 1] (K' := [(0, .slice A0_0 a0.length n0_0), (1, .slice A1_0 a1.length n1_0)]) (by kernel_rfl) ?_
  refine gl_atE (by kernel_rfl) ?_
  refine ge_seq ?_
  refine gk_seq (by kernel_rfl) ?_
  refine gk_seq (by kernel_rfl) ?_
  refine gk_region (by kernel_rfl) ?_
  refine gl_pure 5 [0, 1, 10] (K' := [(0, .slice A0_0 a0.length n0_0), (1, .slice A1_0 a1.length n1_0), (10, .bool ((a0.length : Int) != (a1.length : Int)))]) (by kernel_rfl) ?_
  refine gl_atE (by kernel_rfl) ?_
  refine ge_seq ?_
  refine gk_cond (b := ((a0.length : Int) != (a1.length : Int))) (by kernel_rfl) (by kernel_rfl) (fun hc1 => ?_) (fun hc1 => ?_)
  · have hr := cond_t hc1 hr
    refine gk_seq (by kernel_rfl) ?_
    refine gk_region (by kernel_rfl) ?_
    refine gl_pure 1 [4] (K' := [(4, .bool false)]) (by kernel_rfl) ?_
    refine gl_atE (by kernel_rfl) ?_
    refine ge_seq ?_
    refine gk_ret (by kernel_rfl) ?_
    refine ge_seq_ret ?_
    obtain rfl := some_inj hr
    exact ge_result trivial (ResOk.tmp (by kernel_rfl) ResOk.nil) (Imm.refl _) ⟨rfl, rfl⟩
  · have hr := cond_f hc1 hr
    refine gk_skip (by kernel_rfl) ?_
    refine ge_seq ?_
    refine gk_seq (by kernel_rfl) ?_
    refine gk_seq (by kernel_rfl) ?_
    refine gk_region (by kernel_rfl) ?_
    refine gl_pure 3 [0, 1, 12, 13] (K' := [(0, .slice A0_0 a0.length n0_0), (1, .slice A1_0 a1.length n1_0), (12, .int .i64 (a0.length : Int)), (13, .int .i64 0)]) (by kernel_rfl) ?_
    refine gl_atE (by kernel_rfl) ?_
    refine ge_seq ?_
    obtain ⟨r6, hl7, hr⟩ := bind_some hr
    refine gk_join (fun t I' L' => ∃ r14, r6 = Sum.inl r14 ∧ I ≤ I' ∧ L = L' ∧ Knows 27 [] t) ?_ ?_
    · refine gk_block (by kernel_rfl) ?_
      refine gk_pick [0, 1, 12, 13] (K' := [(0, .slice A0_0 a0.length n0_0), (1, .slice A1_0 a1.length n1_0), (12, .int .i64 (a0.length : Int)), (13, .int .i64 0)]) (by kernel_rfl) ?_
      intro t hK
      refine gc_loop (tocsinref26_SameSets_l18 a0 a1) (fun s8 t I' L' => I ≤ I' ∧ L = L' ∧ Knows 27 [(0, .slice A0_0 a0.length n0_0), (1, .slice A1_0 a1.length n1_0), (12, .int .i64 (a0.length : Int)), (13, .int .i64 s8)] t) (by kernel_rfl) ?_ hl7 ⟨(Imm.refl _), rfl, hK⟩
      rintro s8 o9 t I13 L' hb10 ⟨hI11, rfl, hK12⟩
      unfold tocsinref26_SameSets_l18 at hb10
      refine gk_at hK12 ?_
      refine gk_seq (by kernel_rfl) ?_
      refine gk_region (by kernel_rfl) ?_
      refine gl_pure 1 [0, 1, 12, 13, 14] (K' := [(0, .slice A0_0 a0.length n0_0), (1, .slice A1_0 a1.length n1_0), (12, .int .i64 (a0.length : Int)), (13, .int .i64 s8), (14, .bool (decide (s8 < (a0.length : Int))))]) (by kernel_rfl) ?_
      refine gl_atE (by kernel_rfl) ?_
      refine ge_seq ?_
      refine gk_seq (by kernel_rfl) ?_
      refine gk_cond (b := (decide (s8 < (a0.length : Int)))) (by kernel_rfl) (by kernel_rfl) (fun hc20 => ?_) (fun hc20 => ?_)
      · have hb10 := cond_t hc20 hb10
        refine gk_skip (by kernel_rfl) ?_
        refine ge_seq ?_
        refine gk_seq (by kernel_rfl) ?_
        refine gk_block (by kernel_rfl) ?_
        refine gk_seq (by kernel_rfl) ?_
        refine gk_region (by kernel_rfl) ?_
        refine gl_pure 2 [0, 1, 5, 12, 13] (K' := [(0, .slice A0_0 a0.length n0_0), (1, .slice A1_0 a1.length n1_0), (5, .int .i64 s8), (12, .int .i64 (a0.length : Int)), (13, .int .i64 s8)]) (by kernel_rfl) ?_
        refine gl_atE (by kernel_rfl) ?_
        refine ge_seq ?_
        refine gk_seq (by kernel_rfl) ?_
        refine gk_draw 8 [(0, true), (1, true), (2, true), (3, true), (4, true), (5, true), (6, true), (7, true)] [] (fun p hp => by cases hp) (by kernel_rfl) (by kernel_rfl) (by kernel_rfl) ?_ (by kernel_rfl)
        refine gd_pure 2 [0, 1, 5, 12, 13, 16, 17] (K' := [(0, .slice A0_0 a0.length n0_0), (1, .slice A1_0 a1.length n1_0), (5, .int .i64 s8), (12, .int .i64 (a0.length : Int)), (13, .int .i64 s8), (16, .slice A0_0 a0.length n0_0), (17, .int .i64 s8)]) (s' := [(2, true), (3, true), (4, true), (5, true), (6, true), (7, true)]) (CC.refl (fun p hp => by cases hp)) (by kernel_rfl) ?_
        obtain ⟨x21, hx22, hb10⟩ := bind_some hb10
        obtain ⟨p23, cs24, hR25, hA26, ha27⟩ := RepS.ixAt hx22 (hf0_0.mono hI11)
        have hi28 := ix_some hx22
        obtain ⟨A29, n30, rfl, hf31⟩ := sl_open hR25
        refine gd_q (v := .pointer (some p23)) (by kernel_rfl) (by kernel_rfl) (CC.refl (fun p hp => by cases hp)) (fun I' L' T hC kk => gl_indexAddrF (c := n0_0) (T' := 22) (e := 36) (xs := (.tmp 16)) (xi := (.tmp 17)) (kd := .i64) ha27 hi28.1 hi28.2.1 (by kernel_rfl) (by kernel_rfl) (by kernel_rfl) (by kernel_rfl) (by kernel_rfl) kk) ?_
        refine gd_q (v := .slice A29 x21.length n30) (by kernel_rfl) (by kernel_rfl) (CC.refl (fun p hp => by cases hp)) (fun I' L' T hC kk => gl_load (T' := 36) (xp := (.tmp 18)) (p := p23) (c := .slice A29 x21.length n30) (n := 1) (by kernel_rfl) (by kernel_rfl) (by kernel_rfl) (by kernel_rfl) (hA26.mono hC.le) kk) ?_
        refine gd_pure 2 [0, 1, 12, 13, 19, 20, 21] (K' := [(0, .slice A0_0 a0.length n0_0), (1, .slice A1_0 a1.length n1_0), (12, .int .i64 (a0.length : Int)), (13, .int .i64 s8), (19, .slice A29 x21.length n30), (20, .slice A1_0 a1.length n1_0), (21, .int .i64 s8)]) (s' := [(6, true), (7, true)]) (CC.refl (fun p hp => by cases hp)) (by kernel_rfl) ?_
        obtain ⟨x32, hx33, hb10⟩ := bind_some hb10
        obtain ⟨p34, cs35, hR36, hA37, ha38⟩ := RepS.ixAt hx33 (hf1_0.mono hI11)
        have hi39 := ix_some hx33
        obtain ⟨A40, n41, rfl, hf42⟩ := sl_open hR36
        refine gd_q (v := .pointer (some p34)) (by kernel_rfl) (by kernel_rfl) (CC.refl (fun p hp => by cases hp)) (fun I' L' T hC kk => gl_indexAddrF (c := n1_0) (T' := 22) (e := 36) (xs := (.tmp 20)) (xi := (.tmp 21)) (kd := .i64) ha38 hi39.1 hi39.2.1 (by kernel_rfl) (by kernel_rfl) (by kernel_rfl) (by kernel_rfl) (by kernel_rfl) kk) ?_
        refine gd_q (v := .slice A40 x32.length n41) (by kernel_rfl) (by kernel_rfl) (CC.refl (fun p hp => by cases hp)) (fun I' L' T hC kk => gl_load (T' := 36) (xp := (.tmp 22)) (p := p34) (c := .slice A40 x32.length n41) (n := 1) (by kernel_rfl) (by kernel_rfl) (by kernel_rfl) (by kernel_rfl) (hA37.mono hC.le) kk) ?_
        refine gd_done ?_
        obtain ⟨y43, hx44, hb10⟩ := bind_some hb10
        refine gl_callQ (by kernel_rfl) (tocsinref04_Same_walk (r := y43) hf31 hf42 hx44 _) ?_
        refine gl_pure 1 [0, 1, 12, 13, 25] (K' := [(0, .slice A0_0 a0.length n0_0), (1, .slice A1_0 a1.length n1_0), (12, .int .i64 (a0.length : Int)), (13, .int .i64 s8), (25, .bool (!y43))]) (by kernel_rfl) ?_
        refine gl_atE (by kernel_rfl) ?_
        refine ge_seq ?_
        refine gk_cond (b := (!y43)) (by kernel_rfl) (by kernel_rfl) (fun hc45 => ?_) (fun hc45 => ?_)
        · have hb10 := cond_t hc45 hb10
          refine gk_seq (by kernel_rfl) ?_
          refine gk_region (by kernel_rfl) ?_
          refine gl_pure 1 [4] (K' := [(4, .bool false)]) (by kernel_rfl) ?_
          refine gl_atE (by kernel_rfl) ?_
          refine ge_seq ?_
          refine gk_ret (by kernel_rfl) ?_
          refine ge_block_ret ?_
          refine ge_seq_ret ?_
          obtain rfl := some_inj hb10
          refine ge_round_out (fun hrr => ?_) (by intro h; cases h)
          obtain rfl := hrr
          refine ge_block_ret ?_
          refine ge_seq_ret ?_
          refine ge_seq_ret ?_
          obtain rfl := some_inj hr
          exact ge_result trivial (ResOk.tmp (by kernel_rfl) ResOk.nil) hI11 ⟨rfl, rfl⟩
        · have hb10 := cond_f hc45 hb10
          refine gk_skip (by kernel_rfl) ?_
          refine ge_block_normal ?_
          refine ge_seq ?_
          refine gk_region (by kernel_rfl) ?_
          refine gl_pure 2 [0, 1, 12, 13] (K' := [(0, .slice A0_0 a0.length n0_0), (1, .slice A1_0 a1.length n1_0), (12, .int .i64 (a0.length : Int)), (13, .int .i64 (IntKind.wrap .i64 (s8 + 1)))]) (by kernel_rfl) ?_
          refine gl_atE (by kernel_rfl) ?_
          obtain rfl := some_inj hb10
          exact ge_round fun t ht => ⟨hI11, rfl, ht.pick (l := [0, 1, 12, 13]) (by kernel_rfl)⟩
      · have hb10 := cond_f hc20 hb10
        refine gk_exit (by kernel_rfl) ?_
        refine ge_seq_exit ?_
        obtain rfl := some_inj hb10
        refine ge_round_out (fun hrr => ?_) (by intro h; cases h)
        obtain rfl := hrr
        refine ge_block_hit (by kernel_rfl) ?_
        exact ge_mid fun t ht => ⟨_, rfl, hI11, rfl, ht.pick (l := []) (by kernel_rfl)⟩
    · rintro t I17 L' ⟨r14, rfl, hI15, rfl, hK16⟩
      refine ge_at hK16 ?_
      refine ge_seq ?_
      refine gk_seq (by kernel_rfl) ?_
      refine gk_region (by kernel_rfl) ?_
      refine gl_pure 1 [4] (K' := [(4, .bool true)]) (by kernel_rfl) ?_
      refine gl_atE (by kernel_rfl) ?_
      refine ge_seq ?_
      refine gk_ret (by kernel_rfl) ?_
      obtain rfl := some_inj hr
      exact ge_result trivial (ResOk.tmp (by kernel_rfl) ResOk.nil) hI15 ⟨rfl, rfl⟩
/-! 15 tocsinref26_Same  -/
noncomputable def tocsinref26_Same (a0 : S23) (a1 : S23) : Option Bool :=
  Option.bind (bif (a0.f0.toList == a1.f0.toList) then
    (bif (a0.f1.toList == a1.f1.toList) then
      (bif (a0.f2 == a1.f2) then
        (Option.bind (tocsinref26_SameSets a0.f3 a1.f3) fun (y11 : Bool) =>
          bif y11 then
          (Option.bind (tocsinref26_SameSets a0.f4 a1.f4) fun (y14 : Bool) =>
            some y14)
          else
          (some false))
        else
        (some false))
      else
      (some false))
    else
    (some false)) fun (j3 : Bool) =>
  some j3
theorem tocsinref26_Same_walk {a0 : S23} {A0_3 : Option Addr} {n0_3 : Nat} {A0_4 : Option Addr} {n0_4 : Nat} {a1 : S23} {A1_3 : Option Addr} {n1_3 : Nat} {A1_4 : Option Addr} {n1_4 : Nat} {I : Imm} {r : Bool}  (hf0_3 : RepS (Kd.sl kS79) I A0_3 n0_3 a0.f3) (hf0_4 : RepS (Kd.sl kS79) I A0_4 n0_4 a0.f4)  (hf1_3 : RepS (Kd.sl kS79) I A1_3 n1_3 a1.f3) (hf1_4 : RepS (Kd.sl kS79) I A1_4 n1_4 a1.f4) (hr : tocsinref26_Same a0 a1 = some r) (L : Own) :
    CallsTo Tryd.prog 15 #[.agg #[.string a0.f0, .string a0.f1, .int .i64 a0.f2, .slice A0_3 a0.f3.length n0_3, .slice A0_4 a0.f4.length n0_4], .agg #[.string a1.f0, .string a1.f1, .int .i64 a1.f2, .slice A1_3 a1.f3.length n1_3, .slice A1_4 a1.f4.length n1_4]] I L (fun v I' L' => v = .bool r ∧ L = L') := by
  unfold tocsinref26_Same at hr
  refine callsTo_body (N := 38) Tryd.func15 (by kernel_rfl) (by kernel_rfl) (by kernel_rfl) ?_
  refine gk_pick [0, 1] (K' := [(0, .agg #[.string a0.f0, .string a0.f1, .int .i64 a0.f2, .slice A0_3 a0.f3.length n0_3, .slice A0_4 a0.f4.length n0_4]), (1, .agg #[.string a1.f0, .string a1.f1, .int .i64 a1.f2, .slice A1_3 a1.f3.length n1_3, .slice A1_4 a1.f4.length n1_4])]) (by kernel_rfl) ?_
  refine gk_seq (by kernel_rfl) ?_
  refine gk_region (by kernel_rfl) ?_
  refine gl_box (T' := 24) (x := (.tmp 0)) (v := .agg #[.string a0.f0, .string a0.f1, .int .i64 a0.f2, .slice A0_3 a0.f3.length n0_3, .slice A0_4 a0.f4.length n0_4]) (cs := #[.string a0.f0, .string a0.f1, .int .i64 a0.f2, .slice A0_3 a0.f3.length n0_3, .slice A0_4 a0.f4.length n0_4]) (by kernel_rfl) (by kernel_rfl) (by kernel_rfl) (by kernel_rfl) (fun g1 => ?_)
  refine gl_box (T' := 24) (x := (.tmp 1)) (v := .agg #[.string a1.f0, .string a1.f1, .int .i64 a1.f2, .slice A1_3 a1.f3.length n1_3, .slice A1_4 a1.f4.length n1_4]) (cs := #[.string a1.f0, .string a1.f1, .int .i64 a1.f2, .slice A1_3 a1.f3.length n1_3, .slice A1_4 a1.f4.length n1_4]) (by kernel_rfl) (by kernel_rfl) (by kernel_rfl) (by kernel_rfl) (fun g2 => ?_)
  refine gl_pure 1 [2, 3] (K' := [(2, .pointer (some ⟨g1, 0, none⟩)), (3, .pointer (some ⟨g2, 0, none⟩))]) (by kernel_rfl) ?_
  refine gl_atE (by kernel_rfl) ?_
  refine ge_seq ?_
  refine gk_seq (by kernel_rfl) ?_
  obtain ⟨j3, hj4, hr⟩ := bind_some hr
  refine gk_join (fun t I' L' => I ≤ I' ∧ L = L' ∧ Knows 38 [(4, .bool j3)] t) ?_ ?_
  · refine gk_region (by kernel_rfl) ?_
    refine gl_pure 1 [2, 3, 5] (K' := [(2, .pointer (some ⟨g1, 0, none⟩)), (3, .pointer (some ⟨g2, 0, none⟩)), (5, .pointer (some ⟨g1, 0, none⟩))]) (by kernel_rfl) ?_
    refine gl_loadB (T' := 9) (xp := (.tmp 5)) (v := .string a0.f0) (g := g1) (off := 0) (cs := #[.string a0.f0, .string a0.f1, .int .i64 a0.f2, .slice A0_3 a0.f3.length n0_3, .slice A0_4 a0.f4.length n0_4]) (e := 24) (fz := (0, 0)) (by kernel_rfl) (by kernel_rfl) (by kernel_rfl) (List.mem_cons_of_mem _ List.mem_cons_self) (by kernel_rfl) ?_
    refine gl_pure 1 [2, 3, 6, 7] (K' := [(2, .pointer (some ⟨g1, 0, none⟩)), (3, .pointer (some ⟨g2, 0, none⟩)), (6, .string a0.f0), (7, .pointer (some ⟨g2, 0, none⟩))]) (by kernel_rfl) ?_
    refine gl_loadB (T' := 9) (xp := (.tmp 7)) (v := .string a1.f0) (g := g2) (off := 0) (cs := #[.string a1.f0, .string a1.f1, .int .i64 a1.f2, .slice A1_3 a1.f3.length n1_3, .slice A1_4 a1.f4.length n1_4]) (e := 24) (fz := (0, 0)) (by kernel_rfl) (by kernel_rfl) (by kernel_rfl) List.mem_cons_self (by kernel_rfl) ?_
    refine gl_pure 2 [2, 3, 10] (K' := [(2, .pointer (some ⟨g1, 0, none⟩)), (3, .pointer (some ⟨g2, 0, none⟩)), (10, .bool (a0.f0.toList == a1.f0.toList))]) (by kernel_rfl) ?_
    refine gl_case 10 (b := (a0.f0.toList == a1.f0.toList)) (by kernel_rfl) (fun hc8 => ?_) (fun hc8 => ?_)
    · have hj4 := cond_t hc8 hj4
      refine gl_pure 1 [2, 3, 10, 11] (K' := [(2, .pointer (some ⟨g1, 0, none⟩)), (3, .pointer (some ⟨g2, 0, none⟩)), (10, .bool true), (11, .pointer (some ⟨g1, 1, none⟩))]) (by kernel_rfl) ?_
      refine gl_loadB (T' := 9) (xp := (.tmp 11)) (v := .string a0.f1) (g := g1) (off := 1) (cs := #[.string a0.f0, .string a0.f1, .int .i64 a0.f2, .slice A0_3 a0.f3.length n0_3, .slice A0_4 a0.f4.length n0_4]) (e := 24) (fz := (0, 0)) (by kernel_rfl) (by kernel_rfl) (by kernel_rfl) (List.mem_cons_of_mem _ List.mem_cons_self) (by kernel_rfl) ?_
      refine gl_pure 1 [2, 3, 10, 12, 13] (K' := [(2, .pointer (some ⟨g1, 0, none⟩)), (3, .pointer (some ⟨g2, 0, none⟩)), (10, .bool true), (12, .string a0.f1), (13, .pointer (some ⟨g2, 1, none⟩))]) (by kernel_rfl) ?_
      refine gl_loadB (T' := 9) (xp := (.tmp 13)) (v := .string a1.f1) (g := g2) (off := 1) (cs := #[.string a1.f0, .string a1.f1, .int .i64 a1.f2, .slice A1_3 a1.f3.length n1_3, .slice A1_4 a1.f4.length n1_4]) (e := 24) (fz := (0, 0)) (by kernel_rfl) (by kernel_rfl) (by kernel_rfl) List.mem_cons_self (by kernel_rfl) ?_
      refine gl_pure 3 [2, 3, 17] (K' := [(2, .pointer (some ⟨g1, 0, none⟩)), (3, .pointer (some ⟨g2, 0, none⟩)), (17, .bool (a0.f1.toList == a1.f1.toList))]) (by kernel_rfl) ?_
      refine gl_case 17 (b := (a0.f1.toList == a1.f1.toList)) (by kernel_rfl) (fun hc9 => ?_) (fun hc9 => ?_)
      · have hj4 := cond_t hc9 hj4
        refine gl_pure 1 [2, 3, 17, 18] (K' := [(2, .pointer (some ⟨g1, 0, none⟩)), (3, .pointer (some ⟨g2, 0, none⟩)), (17, .bool true), (18, .pointer (some ⟨g1, 2, none⟩))]) (by kernel_rfl) ?_
        refine gl_loadB (T' := 2) (xp := (.tmp 18)) (v := .int .i64 a0.f2) (g := g1) (off := 2) (cs := #[.string a0.f0, .string a0.f1, .int .i64 a0.f2, .slice A0_3 a0.f3.length n0_3, .slice A0_4 a0.f4.length n0_4]) (e := 24) (fz := (0, 0)) (by kernel_rfl) (by kernel_rfl) (by kernel_rfl) (List.mem_cons_of_mem _ List.mem_cons_self) (by kernel_rfl) ?_
        refine gl_pure 1 [2, 3, 17, 19, 20] (K' := [(2, .pointer (some ⟨g1, 0, none⟩)), (3, .pointer (some ⟨g2, 0, none⟩)), (17, .bool true), (19, .int .i64 a0.f2), (20, .pointer (some ⟨g2, 2, none⟩))]) (by kernel_rfl) ?_
        refine gl_loadB (T' := 2) (xp := (.tmp 20)) (v := .int .i64 a1.f2) (g := g2) (off := 2) (cs := #[.string a1.f0, .string a1.f1, .int .i64 a1.f2, .slice A1_3 a1.f3.length n1_3, .slice A1_4 a1.f4.length n1_4]) (e := 24) (fz := (0, 0)) (by kernel_rfl) (by kernel_rfl) (by kernel_rfl) List.mem_cons_self (by kernel_rfl) ?_
        refine gl_pure 3 [2, 3, 24] (K' := [(2, .pointer (some ⟨g1, 0, none⟩)), (3, .pointer (some ⟨g2, 0, none⟩)), (24, .bool (a0.f2 == a1.f2))]) (by kernel_rfl) ?_
        refine gl_case 24 (b := (a0.f2 == a1.f2)) (by kernel_rfl) (fun hc10 => ?_) (fun hc10 => ?_)
        · have hj4 := cond_t hc10 hj4
          refine gl_pure 1 [2, 3, 24, 25] (K' := [(2, .pointer (some ⟨g1, 0, none⟩)), (3, .pointer (some ⟨g2, 0, none⟩)), (24, .bool true), (25, .pointer (some ⟨g1, 3, none⟩))]) (by kernel_rfl) ?_
          refine gl_loadB (T' := 22) (xp := (.tmp 25)) (v := .slice A0_3 a0.f3.length n0_3) (g := g1) (off := 3) (cs := #[.string a0.f0, .string a0.f1, .int .i64 a0.f2, .slice A0_3 a0.f3.length n0_3, .slice A0_4 a0.f4.length n0_4]) (e := 24) (fz := (0, 0)) (by kernel_rfl) (by kernel_rfl) (by kernel_rfl) (List.mem_cons_of_mem _ List.mem_cons_self) (by kernel_rfl) ?_
          refine gl_pure 1 [2, 3, 24, 26, 27] (K' := [(2, .pointer (some ⟨g1, 0, none⟩)), (3, .pointer (some ⟨g2, 0, none⟩)), (24, .bool true), (26, .slice A0_3 a0.f3.length n0_3), (27, .pointer (some ⟨g2, 3, none⟩))]) (by kernel_rfl) ?_
          refine gl_loadB (T' := 22) (xp := (.tmp 27)) (v := .slice A1_3 a1.f3.length n1_3) (g := g2) (off := 3) (cs := #[.string a1.f0, .string a1.f1, .int .i64 a1.f2, .slice A1_3 a1.f3.length n1_3, .slice A1_4 a1.f4.length n1_4]) (e := 24) (fz := (0, 0)) (by kernel_rfl) (by kernel_rfl) (by kernel_rfl) List.mem_cons_self (by kernel_rfl) ?_
          obtain ⟨y11, hx12, hj4⟩ := bind_some hj4
          refine gl_callQ (by kernel_rfl) (tocsinref26_SameSets_walk (r := y11) hf0_3 hf1_3 hx12 _) ?_
          refine gl_pure 2 [2, 3, 31] (K' := [(2, .pointer (some ⟨g1, 0, none⟩)), (3, .pointer (some ⟨g2, 0, none⟩)), (31, .bool y11)]) (by kernel_rfl) ?_
          refine gl_case 31 (b := y11) (by kernel_rfl) (fun hc13 => ?_) (fun hc13 => ?_)
          · have hj4 := cond_t hc13 hj4
            refine gl_pure 1 [3, 31, 32] (K' := [(3, .pointer (some ⟨g2, 0, none⟩)), (31, .bool true), (32, .pointer (some ⟨g1, 4, none⟩))]) (by kernel_rfl) ?_
            refine gl_loadB (T' := 22) (xp := (.tmp 32)) (v := .slice A0_4 a0.f4.length n0_4) (g := g1) (off := 4) (cs := #[.string a0.f0, .string a0.f1, .int .i64 a0.f2, .slice A0_3 a0.f3.length n0_3, .slice A0_4 a0.f4.length n0_4]) (e := 24) (fz := (0, 0)) (by kernel_rfl) (by kernel_rfl) (by kernel_rfl) (List.mem_cons_of_mem _ List.mem_cons_self) (by kernel_rfl) ?_
            refine gl_pure 1 [31, 33, 34] (K' := [(31, .bool true), (33, .slice A0_4 a0.f4.length n0_4), (34, .pointer (some ⟨g2, 4, none⟩))]) (by kernel_rfl) ?_
            refine gl_loadB (T' := 22) (xp := (.tmp 34)) (v := .slice A1_4 a1.f4.length n1_4) (g := g2) (off := 4) (cs := #[.string a1.f0, .string a1.f1, .int .i64 a1.f2, .slice A1_3 a1.f3.length n1_3, .slice A1_4 a1.f4.length n1_4]) (e := 24) (fz := (0, 0)) (by kernel_rfl) (by kernel_rfl) (by kernel_rfl) List.mem_cons_self (by kernel_rfl) ?_
            obtain ⟨y14, hx15, hj4⟩ := bind_some hj4
            refine gl_callQ (by kernel_rfl) (tocsinref26_SameSets_walk (r := y14) hf0_4 hf1_4 hx15 _) ?_
            refine gl_pure 2 [4] (K' := [(4, .bool y14)]) (by kernel_rfl) ?_
            refine gl_reord (D := L) (Reord.skip (Reord.skip (Reord.refl _))) ?_
            refine gl_atE (by kernel_rfl) ?_
            obtain rfl := some_inj hj4
            exact ge_mid fun t ht => ⟨(Imm.refl _), rfl, ht.pick (l := [4]) (by kernel_rfl)⟩
          · have hj4 := cond_f hc13 hj4
            refine gl_pure 7 [4] (K' := [(4, .bool false)]) (by kernel_rfl) ?_
            refine gl_reord (D := L) (Reord.skip (Reord.skip (Reord.refl _))) ?_
            refine gl_atE (by kernel_rfl) ?_
            obtain rfl := some_inj hj4
            exact ge_mid fun t ht => ⟨(Imm.refl _), rfl, ht.pick (l := [4]) (by kernel_rfl)⟩
        · have hj4 := cond_f hc10 hj4
          refine gl_pure 14 [4] (K' := [(4, .bool false)]) (by kernel_rfl) ?_
          refine gl_reord (D := L) (Reord.skip (Reord.skip (Reord.refl _))) ?_
          refine gl_atE (by kernel_rfl) ?_
          obtain rfl := some_inj hj4
          exact ge_mid fun t ht => ⟨(Imm.refl _), rfl, ht.pick (l := [4]) (by kernel_rfl)⟩
      · have hj4 := cond_f hc9 hj4
        refine gl_pure 21 [4] (K' := [(4, .bool false)]) (by kernel_rfl) ?_
        refine gl_reord (D := L) (Reord.skip (Reord.skip (Reord.refl _))) ?_
        refine gl_atE (by kernel_rfl) ?_
        obtain rfl := some_inj hj4
        exact ge_mid fun t ht => ⟨(Imm.refl _), rfl, ht.pick (l := [4]) (by kernel_rfl)⟩
    · have hj4 := cond_f hc8 hj4
      refine gl_pure 28 [4] (K' := [(4, .bool false)]) (by kernel_rfl) ?_
      refine gl_reord (D := L) (Reord.skip (Reord.skip (Reord.refl _))) ?_
      refine gl_atE (by kernel_rfl) ?_
      obtain rfl := some_inj hj4
      exact ge_mid fun t ht => ⟨(Imm.refl _), rfl, ht.pick (l := [4]) (by kernel_rfl)⟩
  · rintro t I7 L' ⟨hI5, rfl, hK6⟩
    refine ge_at hK6 ?_
    refine ge_seq ?_
    refine gk_ret (by kernel_rfl) ?_
    obtain rfl := some_inj hr
    exact ge_result trivial (ResOk.tmp (by kernel_rfl) ResOk.nil) hI5 ⟨rfl, rfl⟩
structure S82 where
  f0 : ByteArray
  f1 : ByteArray
def kS82 : Kd S82 := Kd.iso (Kd.pair Kd.str Kd.str) (fun x => (x.f0, x.f1))
def wS82 (x : S82) (n : Nat) : Prop := ∃ n0 n1, n0 + n1 + 1 ≤ n ∧ wStr x.f0 n0 ∧ wStr x.f1 n1
theorem kS82_open {I : Imm} {x : S82} {cs : List Value} (h : kS82.R I x cs) : cs = [.string x.f0, .string x.f1] := by
  obtain ⟨_, _, rfl, h_0, h_1⟩ := h
  obtain rfl := h_0
  obtain rfl := h_1
  exact rfl
theorem kS82_mk {I : Imm} {x : S82}   : kS82.R I x [.string x.f0, .string x.f1] :=
  ⟨[.string x.f0], [.string x.f1], rfl, rfl, rfl⟩
structure S86 where
  f0 : S82
  f1 : S23
def kS86 : Kd S86 := Kd.iso (Kd.pair kS82 kS23) (fun x => (x.f0, x.f1))
def wS86 (x : S86) (n : Nat) : Prop := ∃ n0 n1, n0 + n1 + 1 ≤ n ∧ wS82 x.f0 n0 ∧ wS23 x.f1 n1
theorem kS86_open {I : Imm} {x : S86} {cs : List Value} (h : kS86.R I x cs) : ∃ A5 c5 A6 c6, RepS (Kd.sl kS79) I A5 c5 x.f1.f3 ∧ RepS (Kd.sl kS79) I A6 c6 x.f1.f4 ∧ cs = [.string x.f0.f0, .string x.f0.f1, .string x.f1.f0, .string x.f1.f1, .int .i64 x.f1.f2, .slice A5 x.f1.f3.length c5, .slice A6 x.f1.f4.length c6] := by
  obtain ⟨_, _, rfl, h_0, h_1⟩ := h
  obtain rfl := kS82_open h_0
  obtain ⟨A_1_3, c_1_3, A_1_4, c_1_4, h_1_3, h_1_4, rfl⟩ := kS23_open h_1
  exact ⟨A_1_3, c_1_3, A_1_4, c_1_4, h_1_3, h_1_4, rfl⟩
theorem kS86_mk {I : Imm} {x : S86} {A5 : Option Addr} {c5 : Nat} {A6 : Option Addr} {c6 : Nat} (h5 : RepS (Kd.sl kS79) I A5 c5 x.f1.f3) (h6 : RepS (Kd.sl kS79) I A6 c6 x.f1.f4) : kS86.R I x [.string x.f0.f0, .string x.f0.f1, .string x.f1.f0, .string x.f1.f1, .int .i64 x.f1.f2, .slice A5 x.f1.f3.length c5, .slice A6 x.f1.f4.length c6] :=
  ⟨[.string x.f0.f0, .string x.f0.f1], [.string x.f1.f0, .string x.f1.f1, .int .i64 x.f1.f2, .slice A5 x.f1.f3.length c5, .slice A6 x.f1.f4.length c6], rfl, kS82_mk , kS23_mk h5 h6⟩
structure S75 where
  f0 : List S86
def kS75 : Kd S75 := Kd.iso (Kd.sl kS86) (fun x => x.f0)
def wS75 (x : S75) (n : Nat) : Prop := ∃ n0, n0 + 1 ≤ n ∧ (wSl wS86) x.f0 n0
theorem kS75_open {I : Imm} {x : S75} {cs : List Value} (h : kS75.R I x cs) : ∃ A0 c0, RepS kS86 I A0 c0 x.f0 ∧ cs = [.slice A0 x.f0.length c0] := by
  obtain ⟨A_0, c_0, rfl, h_0⟩ := h
  exact ⟨A_0, c_0, h_0, rfl⟩
theorem kS75_mk {I : Imm} {x : S75} {A0 : Option Addr} {c0 : Nat} (h0 : RepS kS86 I A0 c0 x.f0) : kS75.R I x [.slice A0 x.f0.length c0] :=
  ⟨_, _, rfl, h0⟩
structure S77 where
  f0 : S75
def kS77 : Kd S77 := Kd.iso kS75 (fun x => x.f0)
def wS77 (x : S77) (n : Nat) : Prop := ∃ n0, n0 + 1 ≤ n ∧ wS75 x.f0 n0
theorem kS77_open {I : Imm} {x : S77} {cs : List Value} (h : kS77.R I x cs) : ∃ A0 c0, RepS kS86 I A0 c0 x.f0.f0 ∧ cs = [.slice A0 x.f0.f0.length c0] := by
  have h_0 := h
  obtain ⟨A_0_0, c_0_0, h_0_0, rfl⟩ := kS75_open h_0
  exact ⟨A_0_0, c_0_0, h_0_0, rfl⟩
theorem kS77_mk {I : Imm} {x : S77} {A0 : Option Addr} {c0 : Nat} (h0 : RepS kS86 I A0 c0 x.f0.f0) : kS77.R I x [.slice A0 x.f0.f0.length c0] :=
  kS75_mk h0
/-! 10 nflog_New  -/
noncomputable def nflog_New : S77 :=
  (⟨(⟨[]⟩ : S75)⟩ : S77)
theorem nflog_New_walk  {I : Imm} {r : S77}  (hr : nflog_New = r) (L : Own) :
    CallsTo Tryd.prog 10 #[] I L (fun v I' L' => ∃ g0 A0_0 c0_0 C0_0, OwnS kS86 87 I' A0_0 c0_0 r.f0.f0 C0_0 ∧ v = .pointer (some ⟨g0, 0, none⟩) ∧ (g0, .cells #[.slice A0_0 r.f0.f0.length c0_0] 78) :: (C0_0 ++ L) = L') := by
  replace hr : some (nflog_New) = some r := congrArg some hr
  unfold nflog_New at hr
  refine callsTo_body (N := 3) Tryd.func10 (by kernel_rfl) (by kernel_rfl) (by kernel_rfl) ?_
  refine gk_pick [] (K' := []) (by kernel_rfl) ?_
  refine gk_seq (by kernel_rfl) ?_
  refine gk_region (by kernel_rfl) ?_
  refine gl_pure 1 [] (K' := []) (by kernel_rfl) ?_
  refine gl_atE (by kernel_rfl) ?_
  refine ge_seq ?_
  refine gk_seq (by kernel_rfl) ?_
  refine gk_region (by kernel_rfl) ?_
  refine gl_pure 1 [1] (K' := [(1, .agg #[.slice none 0 0])]) (by kernel_rfl) ?_
  refine gl_box (T' := 78) (x := (.tmp 1)) (v := .agg #[.slice none 0 0]) (cs := #[.slice none 0 0]) (by kernel_rfl) (by kernel_rfl) (by kernel_rfl) (by kernel_rfl) (fun g1 => ?_)
  refine gl_pure 1 [0] (K' := [(0, .pointer (some ⟨g1, 0, none⟩))]) (by kernel_rfl) ?_
  refine gl_atE (by kernel_rfl) ?_
  refine ge_seq ?_
  refine gk_ret (by kernel_rfl) ?_
  obtain rfl := some_inj hr
  exact ge_result trivial (ResOk.tmp (by kernel_rfl) ResOk.nil) (Imm.refl _) ⟨g1, none, 0, [], OwnS.nil _ _ _ _, rfl, rfl⟩
structure Fn100 (I : Imm) (fv : Value) (f : S86 → Option Bool) : Prop where
  out : ∀ I', I ≤ I' → ∀ (x0 : S86) (r : Bool), f x0 = some r → ∀ A0_5 c0_5 A0_6 c0_6, RepS (Kd.sl kS79) I' A0_5 c0_5 x0.f1.f3 → RepS (Kd.sl kS79) I' A0_6 c0_6 x0.f1.f4 → ∀ L, CallsV Tryd.prog fv [.agg #[.string x0.f0.f0, .string x0.f0.f1, .string x0.f1.f0, .string x0.f1.f1, .int .i64 x0.f1.f2, .slice A0_5 x0.f1.f3.length c0_5, .slice A0_6 x0.f1.f4.length c0_6]] I' L (fun v I' L' => v = .bool r ∧ L = L')
theorem Fn100.mono {I J : Imm} {fv : Value} {f : S86 → Option Bool} (h : Fn100 I fv f) (hI : I ≤ J) : Fn100 J fv f := ⟨fun I' hI' => h.out I' (Imm.trans hI hI')⟩
/-! 84 slices_IndexFunc  -/
noncomputable def slices_IndexFunc_l17 (a0 : List S86) (a1 : S86 → Option Bool) : Int → Option ((Int) ⊕ ((Unit) ⊕ (Int))) := fun s7 =>
  bif (decide (s7 < (a0.length : Int))) then
  (Option.bind (ix a0 s7) fun (x20 : S86) =>
    Option.bind (a1 x20) fun (y35 : Bool) =>
    bif y35 then
    (some (Sum.inr (Sum.inr s7)))
    else
    (some (Sum.inl (IntKind.wrap .i64 (s7 + 1)))))
  else
  (some (Sum.inr (Sum.inl ())))
noncomputable def slices_IndexFunc (a0 : List S86) (a1 : S86 → Option Bool) : Option Int :=
  Option.bind (loopO (slices_IndexFunc_l17 a0 a1) 0) fun (r5 : (Unit) ⊕ (Int)) =>
  match r5 with
  | Sum.inl r13 => some (-1)
  | Sum.inr v37 => some v37
theorem slices_IndexFunc_walk {a0 : List S86} {A0_0 : Option Addr} {n0_0 : Nat} {a1 : S86 → Option Bool} {fv1 : Value} {I : Imm} {r : Int}  (hf0_0 : RepS kS86 I A0_0 n0_0 a0) (hf1 : Fn100 I fv1 a1) (hr : slices_IndexFunc a0 a1 = some r) (L : Own) :
    CallsTo Tryd.prog 84 #[.slice A0_0 a0.length n0_0, fv1] I L (fun v I' L' => v = .int .i64 r ∧ L = L') := by
  unfold slices_IndexFunc at hr
  refine callsTo_body (N := 19) Tryd.func84 (by kernel_rfl) (by kernel_rfl) (by kernel_rfl) ?_
  refine gk_pick [0, 1] (K' := [(0, .slice A0_0 a0.length n0_0), (1, fv1)]) (by kernel_rfl) ?_
  refine gk_seq (by kernel_rfl) ?_
  refine gk_region (by kernel_rfl) ?_
  refine gl_pure 1 [0, 1] (K' := [(0, .slice A0_0 a0.length n0_0), (1, fv1)]) (by kernel_rfl) ?_
  refine gl_atE (by kernel_rfl) ?_
  refine ge_seq ?_
  refine gk_seq (by kernel_rfl) ?_
  refine gk_seq (by kernel_rfl) ?_
  refine gk_region (by kernel_rfl) ?_
  refine gl_pure 3 [0, 1, 7, 8] (K' := [(0, .slice A0_0 a0.length n0_0), (1, fv1), (7, .int .i64 (a0.length : Int)), (8, .int .i64 0)]) (by kernel_rfl) ?_
  refine gl_atE (by kernel_rfl) ?_
  refine ge_seq ?_
  obtain ⟨r5, hl6, hr⟩ := bind_some hr
  refine gk_join (fun t I' L' => ∃ r13, r5 = Sum.inl r13 ∧ I ≤ I' ∧ L = L' ∧ Knows 19 [] t) ?_ ?_
  · refine gk_block (by kernel_rfl) ?_
    refine gk_pick [0, 1, 7, 8] (K' := [(0, .slice A0_0 a0.length n0_0), (1, fv1), (7, .int .i64 (a0.length : Int)), (8, .int .i64 0)]) (by kernel_rfl) ?_
    intro t hK
    refine gc_loop (slices_IndexFunc_l17 a0 a1) (fun s7 t I' L' => I ≤ I' ∧ L = L' ∧ Knows 19 [(0, .slice A0_0 a0.length n0_0), (1, fv1), (7, .int .i64 (a0.length : Int)), (8, .int .i64 s7)] t) (by kernel_rfl) ?_ hl6 ⟨(Imm.refl _), rfl, hK⟩
    rintro s7 o8 t I12 L' hb9 ⟨hI10, rfl, hK11⟩
    unfold slices_IndexFunc_l17 at hb9
    refine gk_at hK11 ?_
    refine gk_seq (by kernel_rfl) ?_
    refine gk_region (by kernel_rfl) ?_
    refine gl_pure 1 [0, 1, 7, 8, 9] (K' := [(0, .slice A0_0 a0.length n0_0), (1, fv1), (7, .int .i64 (a0.length : Int)), (8, .int .i64 s7), (9, .bool (decide (s7 < (a0.length : Int))))]) (by kernel_rfl) ?_
    refine gl_atE (by kernel_rfl) ?_
    refine ge_seq ?_
    refine gk_seq (by kernel_rfl) ?_
    refine gk_cond (b := (decide (s7 < (a0.length : Int)))) (by kernel_rfl) (by kernel_rfl) (fun hc19 => ?_) (fun hc19 => ?_)
    · have hb9 := cond_t hc19 hb9
      refine gk_skip (by kernel_rfl) ?_
      refine ge_seq ?_
      refine gk_seq (by kernel_rfl) ?_
      refine gk_block (by kernel_rfl) ?_
      refine gk_seq (by kernel_rfl) ?_
      refine gk_region (by kernel_rfl) ?_
      refine gl_pure 2 [0, 1, 5, 7, 8] (K' := [(0, .slice A0_0 a0.length n0_0), (1, fv1), (5, .int .i64 s7), (7, .int .i64 (a0.length : Int)), (8, .int .i64 s7)]) (by kernel_rfl) ?_
      refine gl_atE (by kernel_rfl) ?_
      refine ge_seq ?_
      refine gk_seq (by kernel_rfl) ?_
      refine gk_region (by kernel_rfl) ?_
      refine gl_pure 3 [0, 1, 5, 7, 8, 11, 12, 13] (K' := [(0, .slice A0_0 a0.length n0_0), (1, fv1), (5, .int .i64 s7), (7, .int .i64 (a0.length : Int)), (8, .int .i64 s7), (11, fv1), (12, .slice A0_0 a0.length n0_0), (13, .int .i64 s7)]) (by kernel_rfl) ?_
      obtain ⟨x20, hx21, hb9⟩ := bind_some hb9
      obtain ⟨p22, cs23, hR24, hA25, ha26⟩ := RepS.ixAt hx21 (hf0_0.mono hI10)
      have hi27 := ix_some hx21
      obtain ⟨A28, n29, A31, n32, hf30, hf33, rfl⟩ := kS86_open hR24
      refine gl_indexAddrF (c := n0_0) (T' := 74) (e := 87) (xs := (.tmp 12)) (xi := (.tmp 13)) (kd := .i64) ha26 hi27.1 hi27.2.1 (by kernel_rfl) (by kernel_rfl) (by kernel_rfl) (by kernel_rfl) (by kernel_rfl) ?_
      refine gl_loadA (T' := 87) (xp := (.tmp 14)) (p := p22) (cs := [.string x20.f0.f0, .string x20.f0.f1, .string x20.f1.f0, .string x20.f1.f1, .int .i64 x20.f1.f2, .slice A28 x20.f1.f3.length n29, .slice A31 x20.f1.f4.length n32]) (by kernel_rfl) (by kernel_rfl) (by kernel_rfl) (by kernel_rfl) (hA25.take 7) ?_
      obtain ⟨y35, hx34, hb9⟩ := bind_some hb9
      refine gl_callvQ (by kernel_rfl) ((hf1.mono hI10).out _ (Imm.refl _) _ _ hx34 _ _ _ _ hf30 hf33 _) ?_
      refine gl_atE (by kernel_rfl) ?_
      refine ge_seq ?_
      refine gk_cond (b := y35) (by kernel_rfl) (by kernel_rfl) (fun hc36 => ?_) (fun hc36 => ?_)
      · have hb9 := cond_t hc36 hb9
        refine gk_seq (by kernel_rfl) ?_
        refine gk_region (by kernel_rfl) ?_
        refine gl_pure 2 [4] (K' := [(4, .int .i64 s7)]) (by kernel_rfl) ?_
        refine gl_atE (by kernel_rfl) ?_
        refine ge_seq ?_
        refine gk_ret (by kernel_rfl) ?_
        refine ge_block_ret ?_
        refine ge_seq_ret ?_
        obtain rfl := some_inj hb9
        refine ge_round_out (fun hrr => ?_) (by intro h; cases h)
        obtain rfl := hrr
        refine ge_block_ret ?_
        refine ge_seq_ret ?_
        refine ge_seq_ret ?_
        obtain rfl := some_inj hr
        exact ge_result trivial (ResOk.tmp (by kernel_rfl) ResOk.nil) hI10 ⟨rfl, rfl⟩
      · have hb9 := cond_f hc36 hb9
        refine gk_skip (by kernel_rfl) ?_
        refine ge_block_normal ?_
        refine ge_seq ?_
        refine gk_region (by kernel_rfl) ?_
        refine gl_pure 2 [0, 1, 7, 8] (K' := [(0, .slice A0_0 a0.length n0_0), (1, fv1), (7, .int .i64 (a0.length : Int)), (8, .int .i64 (IntKind.wrap .i64 (s7 + 1)))]) (by kernel_rfl) ?_
        refine gl_atE (by kernel_rfl) ?_
        obtain rfl := some_inj hb9
        exact ge_round fun t ht => ⟨hI10, rfl, ht.pick (l := [0, 1, 7, 8]) (by kernel_rfl)⟩
    · have hb9 := cond_f hc19 hb9
      refine gk_exit (by kernel_rfl) ?_
      refine ge_seq_exit ?_
      obtain rfl := some_inj hb9
      refine ge_round_out (fun hrr => ?_) (by intro h; cases h)
      obtain rfl := hrr
      refine ge_block_hit (by kernel_rfl) ?_
      exact ge_mid fun t ht => ⟨_, rfl, hI10, rfl, ht.pick (l := []) (by kernel_rfl)⟩
  · rintro t I16 L' ⟨r13, rfl, hI14, rfl, hK15⟩
    refine ge_at hK15 ?_
    refine ge_seq ?_
    refine gk_seq (by kernel_rfl) ?_
    refine gk_region (by kernel_rfl) ?_
    refine gl_pure 1 [4] (K' := [(4, .int .i64 (-1))]) (by kernel_rfl) ?_
    refine gl_atE (by kernel_rfl) ?_
    refine ge_seq ?_
    refine gk_ret (by kernel_rfl) ?_
    obtain rfl := some_inj hr
    exact ge_result trivial (ResOk.tmp (by kernel_rfl) ResOk.nil) hI14 ⟨rfl, rfl⟩
/-! 86 nflog_key_compare  -/
noncomputable def nflog_key_compare (a0 : S82) (a1 : S82) : Int :=
  bif ((strings_Compare a0.f0 a1.f0) != 0) then
  ((strings_Compare a0.f0 a1.f0))
  else
  ((strings_Compare a0.f1 a1.f1))
theorem nflog_key_compare_walk {a0 : S82} {a1 : S82} {I : Imm} {r : Int}  (hr : nflog_key_compare a0 a1 = r) (L : Own) :
    CallsTo Tryd.prog 86 #[.agg #[.string a0.f0, .string a0.f1], .agg #[.string a1.f0, .string a1.f1]] I L (fun v I' L' => v = .int .i64 r ∧ L = L') := by
  replace hr : some (nflog_key_compare a0 a1) = some r := congrArg some hr
  unfold nflog_key_compare at hr
  refine callsTo_body (N := 19) Tryd.func86 (by kernel_rfl) (by kernel_rfl) (by kernel_rfl) ?_
  refine gk_pick [0, 1] (K' := [(0, .agg #[.string a0.f0, .string a0.f1]), (1, .agg #[.string a1.f0, .string a1.f1])]) (by kernel_rfl) ?_
  refine gk_seq (by kernel_rfl) ?_
  refine gk_region (by kernel_rfl) ?_
  refine gl_box (T' := 83) (x := (.tmp 0)) (v := .agg #[.string a0.f0, .string a0.f1]) (cs := #[.string a0.f0, .string a0.f1]) (by kernel_rfl) (by kernel_rfl) (by kernel_rfl) (by kernel_rfl) (fun g1 => ?_)
  refine gl_box (T' := 83) (x := (.tmp 1)) (v := .agg #[.string a1.f0, .string a1.f1]) (cs := #[.string a1.f0, .string a1.f1]) (by kernel_rfl) (by kernel_rfl) (by kernel_rfl) (by kernel_rfl) (fun g2 => ?_)
  refine gl_pure 1 [2, 3] (K' := [(2, .pointer (some ⟨g1, 0, none⟩)), (3, .pointer (some ⟨g2, 0, none⟩))]) (by kernel_rfl) ?_
  refine gl_atE (by kernel_rfl) ?_
  refine ge_seq ?_
  refine gk_seq (by kernel_rfl) ?_
  refine gk_seq (by kernel_rfl) ?_
  refine gk_region (by kernel_rfl) ?_
  refine gl_pure 1 [2, 3, 6] (K' := [(2, .pointer (some ⟨g1, 0, none⟩)), (3, .pointer (some ⟨g2, 0, none⟩)), (6, .pointer (some ⟨g1, 0, none⟩))]) (by kernel_rfl) ?_
  refine gl_loadB (T' := 9) (xp := (.tmp 6)) (v := .string a0.f0) (g := g1) (off := 0) (cs := #[.string a0.f0, .string a0.f1]) (e := 83) (fz := (0, 0)) (by kernel_rfl) (by kernel_rfl) (by kernel_rfl) (List.mem_cons_of_mem _ List.mem_cons_self) (by kernel_rfl) ?_
  refine gl_pure 1 [2, 3, 7, 8] (K' := [(2, .pointer (some ⟨g1, 0, none⟩)), (3, .pointer (some ⟨g2, 0, none⟩)), (7, .string a0.f0), (8, .pointer (some ⟨g2, 0, none⟩))]) (by kernel_rfl) ?_
  refine gl_loadB (T' := 9) (xp := (.tmp 8)) (v := .string a1.f0) (g := g2) (off := 0) (cs := #[.string a1.f0, .string a1.f1]) (e := 83) (fz := (0, 0)) (by kernel_rfl) (by kernel_rfl) (by kernel_rfl) List.mem_cons_self (by kernel_rfl) ?_
  refine gl_callQ (by kernel_rfl) (strings_Compare_walk (r := (strings_Compare a0.f0 a1.f0))  rfl _) ?_
  refine gl_pure 1 [2, 3, 5] (K' := [(2, .pointer (some ⟨g1, 0, none⟩)), (3, .pointer (some ⟨g2, 0, none⟩)), (5, .int .i64 (strings_Compare a0.f0 a1.f0))]) (by kernel_rfl) ?_
  refine gl_atE (by kernel_rfl) ?_
  refine ge_seq ?_
  refine gk_seq (by kernel_rfl) ?_
  refine gk_region (by kernel_rfl) ?_
  refine gl_pure 2 [2, 3, 5, 12] (K' := [(2, .pointer (some ⟨g1, 0, none⟩)), (3, .pointer (some ⟨g2, 0, none⟩)), (5, .int .i64 (strings_Compare a0.f0 a1.f0)), (12, .bool ((strings_Compare a0.f0 a1.f0) != 0))]) (by kernel_rfl) ?_
  refine gl_atE (by kernel_rfl) ?_
  refine ge_seq ?_
  refine gk_cond (b := ((strings_Compare a0.f0 a1.f0) != 0)) (by kernel_rfl) (by kernel_rfl) (fun hc3 => ?_) (fun hc3 => ?_)
  · have hr := scond_t hc3 hr
    refine gk_seq (by kernel_rfl) ?_
    refine gk_region (by kernel_rfl) ?_
    refine gl_pure 2 [4] (K' := [(4, .int .i64 (strings_Compare a0.f0 a1.f0))]) (by kernel_rfl) ?_
    refine gl_atE (by kernel_rfl) ?_
    refine ge_seq ?_
    refine gk_reord (D := L) (Reord.skip (Reord.skip (Reord.refl _))) ?_
    refine gk_ret (by kernel_rfl) ?_
    refine ge_seq_ret ?_
    obtain rfl := some_inj hr
    exact ge_result trivial (ResOk.tmp (by kernel_rfl) ResOk.nil) (Imm.refl _) ⟨rfl, rfl⟩
  · have hr := scond_f hc3 hr
    refine gk_skip (by kernel_rfl) ?_
    refine ge_seq ?_
    refine gk_seq (by kernel_rfl) ?_
    refine gk_region (by kernel_rfl) ?_
    refine gl_pure 1 [3, 14] (K' := [(3, .pointer (some ⟨g2, 0, none⟩)), (14, .pointer (some ⟨g1, 1, none⟩))]) (by kernel_rfl) ?_
    refine gl_loadB (T' := 9) (xp := (.tmp 14)) (v := .string a0.f1) (g := g1) (off := 1) (cs := #[.string a0.f0, .string a0.f1]) (e := 83) (fz := (0, 0)) (by kernel_rfl) (by kernel_rfl) (by kernel_rfl) (List.mem_cons_of_mem _ List.mem_cons_self) (by kernel_rfl) ?_
    refine gl_pure 1 [15, 16] (K' := [(15, .string a0.f1), (16, .pointer (some ⟨g2, 1, none⟩))]) (by kernel_rfl) ?_
    refine gl_loadB (T' := 9) (xp := (.tmp 16)) (v := .string a1.f1) (g := g2) (off := 1) (cs := #[.string a1.f0, .string a1.f1]) (e := 83) (fz := (0, 0)) (by kernel_rfl) (by kernel_rfl) (by kernel_rfl) List.mem_cons_self (by kernel_rfl) ?_
    refine gl_callQ (by kernel_rfl) (strings_Compare_walk (r := (strings_Compare a0.f1 a1.f1))  rfl _) ?_
    refine gl_pure 1 [4] (K' := [(4, .int .i64 (strings_Compare a0.f1 a1.f1))]) (by kernel_rfl) ?_
    refine gl_atE (by kernel_rfl) ?_
    refine ge_seq ?_
    refine gk_reord (D := L) (Reord.skip (Reord.skip (Reord.refl _))) ?_
    refine gk_ret (by kernel_rfl) ?_
    obtain rfl := some_inj hr
    exact ge_result trivial (ResOk.tmp (by kernel_rfl) ResOk.nil) (Imm.refl _) ⟨rfl, rfl⟩
/-! 85 nflog_list_find_1 ('imm', ('ptrR', 83)) -/
noncomputable def nflog_list_find_1 (a0 : S86) (a1 : S82) : Bool :=
  (decide ((nflog_key_compare a0.f0 a1) ≥ 0))
theorem nflog_list_find_1_walk {a0 : S86} {A0_5 : Option Addr} {n0_5 : Nat} {A0_6 : Option Addr} {n0_6 : Nat} {a1 : S82} {p1 : Addr} {I : Imm} {r : Bool}  (hf0_5 : RepS (Kd.sl kS79) I A0_5 n0_5 a0.f1.f3) (hf0_6 : RepS (Kd.sl kS79) I A0_6 n0_6 a0.f1.f4) (hp1 : RunAt I p1 [.string a1.f0, .string a1.f1]) (hr : nflog_list_find_1 a0 a1 = r) (L : Own) :
    CallsTo Tryd.prog 85 #[.agg #[.string a0.f0.f0, .string a0.f0.f1, .string a0.f1.f0, .string a0.f1.f1, .int .i64 a0.f1.f2, .slice A0_5 a0.f1.f3.length n0_5, .slice A0_6 a0.f1.f4.length n0_6], .pointer (some p1)] I L (fun v I' L' => v = .bool r ∧ L = L') := by
  replace hr : some (nflog_list_find_1 a0 a1) = some r := congrArg some hr
  unfold nflog_list_find_1 at hr
  refine callsTo_body (N := 9) Tryd.func85 (by kernel_rfl) (by kernel_rfl) (by kernel_rfl) ?_
  refine gk_pick [0, 1] (K' := [(0, .agg #[.string a0.f0.f0, .string a0.f0.f1, .string a0.f1.f0, .string a0.f1.f1, .int .i64 a0.f1.f2, .slice A0_5 a0.f1.f3.length n0_5, .slice A0_6 a0.f1.f4.length n0_6]), (1, .pointer (some p1))]) (by kernel_rfl) ?_
  refine gk_seq (by kernel_rfl) ?_
  refine gk_region (by kernel_rfl) ?_
  refine gl_box (T' := 87) (x := (.tmp 0)) (v := .agg #[.string a0.f0.f0, .string a0.f0.f1, .string a0.f1.f0, .string a0.f1.f1, .int .i64 a0.f1.f2, .slice A0_5 a0.f1.f3.length n0_5, .slice A0_6 a0.f1.f4.length n0_6]) (cs := #[.string a0.f0.f0, .string a0.f0.f1, .string a0.f1.f0, .string a0.f1.f1, .int .i64 a0.f1.f2, .slice A0_5 a0.f1.f3.length n0_5, .slice A0_6 a0.f1.f4.length n0_6]) (by kernel_rfl) (by kernel_rfl) (by kernel_rfl) (by kernel_rfl) (fun g1 => ?_)
  refine gl_pure 1 [1, 2] (K' := [(1, .pointer (some p1)), (2, .pointer (some ⟨g1, 0, none⟩))]) (by kernel_rfl) ?_
  refine gl_atE (by kernel_rfl) ?_
  refine ge_seq ?_
  refine gk_seq (by kernel_rfl) ?_
  refine gk_region (by kernel_rfl) ?_
  refine gl_pure 1 [1, 4] (K' := [(1, .pointer (some p1)), (4, .pointer (some ⟨g1, 0, none⟩))]) (by kernel_rfl) ?_
  refine gl_loadB (T' := 83) (xp := (.tmp 4)) (v := .agg #[.string a0.f0.f0, .string a0.f0.f1]) (g := g1) (off := 0) (cs := #[.string a0.f0.f0, .string a0.f0.f1, .string a0.f1.f0, .string a0.f1.f1, .int .i64 a0.f1.f2, .slice A0_5 a0.f1.f3.length n0_5, .slice A0_6 a0.f1.f4.length n0_6]) (e := 87) (fz := (0, 0)) (by kernel_rfl) (by kernel_rfl) (by kernel_rfl) List.mem_cons_self (by kernel_rfl) ?_
  refine gl_loadA (T' := 83) (xp := (.tmp 1)) (p := p1) (cs := [.string a1.f0, .string a1.f1]) (by kernel_rfl) (by kernel_rfl) (by kernel_rfl) (by kernel_rfl) (hp1.take 2) ?_
  refine gl_callQ (by kernel_rfl) (nflog_key_compare_walk (r := (nflog_key_compare a0.f0 a1))  rfl _) ?_
  refine gl_pure 2 [3] (K' := [(3, .bool (decide ((nflog_key_compare a0.f0 a1) ≥ 0)))]) (by kernel_rfl) ?_
  refine gl_atE (by kernel_rfl) ?_
  refine ge_seq ?_
  refine gk_reord (D := L) (Reord.skip (Reord.refl _)) ?_
  refine gk_ret (by kernel_rfl) ?_
  obtain rfl := some_inj hr
  exact ge_result trivial (ResOk.tmp (by kernel_rfl) ResOk.nil) (Imm.refl _) ⟨rfl, rfl⟩
theorem nflog_list_find_1_impl100 {a1 : S82} {p1 : Addr} {I : Imm} (hp1 : RunAt I p1 [.string a1.f0, .string a1.f1]) : Fn100 I (.func (.func 85) #[] #[.pointer (some p1)]) (fun x0 => some (nflog_list_find_1 x0 a1)) := ⟨fun I' hI x0 r hr A0_5 c0_5 A0_6 c0_6 h0_5 h0_6 L => ⟨85, #[], #[.pointer (some p1)], rfl, ⟨_, Tryd.func85, by kernel_rfl, by kernel_rfl⟩, by
  simp only [List.append_toArray, List.nil_append, List.append_nil, Array.append_empty, Array.empty_append, List.push_append_toArray, List.cons_append]
  exact nflog_list_find_1_walk  h0_5 h0_6 (hp1.mono hI) (some_inj hr) L⟩⟩
/-! 42 nflog_list_find ('obj', 'imm') -/
noncomputable def nflog_list_find (a0 : S75) (a1 : S82) : Option (Int × Bool) :=
  Option.bind (slices_IndexFunc a0.f0 (fun x0 => some (nflog_list_find_1 x0 a1))) fun (y2 : Int) =>
  bif (decide (y2 < 0)) then
  (some ((a0.f0.length : Int), false))
  else
  (Option.bind (ix a0.f0 y2) fun (x5 : S86) =>
    some (y2, ((x5.f0.f0.toList == a1.f0.toList) && (x5.f0.f1.toList == a1.f1.toList))))
theorem nflog_list_find_walk {a0 : S75} {g0 : Nat} {T0 : TypeId} {A0_0 : Option Addr} {c0_0 : Nat} {C0_0 : Own} {a1 : S82} {I : Imm} {r : Int × Bool}  (hO0_0 : OwnS kS86 87 I A0_0 c0_0 a0.f0 C0_0) (hr : nflog_list_find a0 a1 = some r) (L : Own) :
    CallsTo Tryd.prog 42 #[.pointer (some ⟨g0, 0, none⟩), .agg #[.string a1.f0, .string a1.f1]] I ((g0, .cells #[.slice A0_0 a0.f0.length c0_0] T0) :: (C0_0 ++ L)) (fun v I' L' => v = .tuple #[.int .i64 r.1, .bool r.2] ∧ (g0, .cells #[.slice A0_0 a0.f0.length c0_0] T0) :: (C0_0 ++ L) = L') := by
  unfold nflog_list_find at hr
  refine callsTo_body (N := 31) Tryd.func42 (by kernel_rfl) (by kernel_rfl) (by kernel_rfl) ?_
  refine gk_pick [0, 1] (K' := [(0, .pointer (some ⟨g0, 0, none⟩)), (1, .agg #[.string a1.f0, .string a1.f1])]) (by kernel_rfl) ?_
  refine gk_seq (by kernel_rfl) ?_
  refine gk_region (by kernel_rfl) ?_
  refine gl_box (T' := 83) (x := (.tmp 1)) (v := .agg #[.string a1.f0, .string a1.f1]) (cs := #[.string a1.f0, .string a1.f1]) (by kernel_rfl) (by kernel_rfl) (by kernel_rfl) (by kernel_rfl) (fun g1 => ?_)
  refine gl_pure 2 [0, 3] (K' := [(0, .pointer (some ⟨g0, 0, none⟩)), (3, .pointer (some ⟨g1, 0, none⟩))]) (by kernel_rfl) ?_
  refine gl_atE (by kernel_rfl) ?_
  refine ge_seq ?_
  refine gk_seq (by kernel_rfl) ?_
  refine gk_region (by kernel_rfl) ?_
  refine gl_pure 3 [0, 3, 9] (K' := [(0, .pointer (some ⟨g0, 0, none⟩)), (3, .pointer (some ⟨g1, 0, none⟩)), (9, .pointer (some ⟨g0, 0, none⟩))]) (by kernel_rfl) ?_
  refine gl_loadB (T' := 74) (xp := (.tmp 9)) (v := .slice A0_0 a0.f0.length c0_0) (g := g0) (off := 0) (cs := #[.slice A0_0 a0.f0.length c0_0]) (e := T0) (fz := (0, 0)) (by kernel_rfl) (by kernel_rfl) (by kernel_rfl) (List.mem_cons_of_mem _ List.mem_cons_self) (by kernel_rfl) ?_
  refine gl_pure 1 [0, 3, 10, 11] (K' := [(0, .pointer (some ⟨g0, 0, none⟩)), (3, .pointer (some ⟨g1, 0, none⟩)), (10, .slice A0_0 a0.f0.length c0_0), (11, .func (.func 85) #[] #[.pointer (some ⟨g1, 0, none⟩)])]) (by kernel_rfl) ?_
  obtain ⟨y2, hx3, hr⟩ := bind_some hr
  refine gl_callB (r := .int .i64 y2) (Tk.step (Upd.rm1 _ _) (Tk.step (Upd.one _ (Upd.rmC _ _)) (Tk.nil _))) (by kernel_rfl) (fun J hJ hC => slices_IndexFunc_walk (r := y2) (OwnS.rest hO0_0 hJ hC.right.left) (nflog_list_find_1_impl100 hC.left.blk) hx3 _) ?_
  refine gl_pure 1 [0, 3, 6] (K' := [(0, .pointer (some ⟨g0, 0, none⟩)), (3, .pointer (some ⟨g1, 0, none⟩)), (6, .int .i64 y2)]) (by kernel_rfl) ?_
  refine gl_atE (by kernel_rfl) ?_
  refine ge_seq ?_
  refine gk_seq (by kernel_rfl) ?_
  refine gk_seq (by kernel_rfl) ?_
  refine gk_region (by kernel_rfl) ?_
  refine gl_pure 2 [0, 3, 6, 14] (K' := [(0, .pointer (some ⟨g0, 0, none⟩)), (3, .pointer (some ⟨g1, 0, none⟩)), (6, .int .i64 y2), (14, .bool (decide (y2 < 0)))]) (by kernel_rfl) ?_
  refine gl_atE (by kernel_rfl) ?_
  refine ge_seq ?_
  refine gk_cond (b := (decide (y2 < 0))) (by kernel_rfl) (by kernel_rfl) (fun hc4 => ?_) (fun hc4 => ?_)
  · have hr := cond_t hc4 hr
    refine gk_seq (by kernel_rfl) ?_
    refine gk_region (by kernel_rfl) ?_
    refine gl_pure 3 [17] (K' := [(17, .pointer (some ⟨g0, 0, none⟩))]) (by kernel_rfl) ?_
    refine gl_loadB (T' := 74) (xp := (.tmp 17)) (v := .slice A0_0 a0.f0.length c0_0) (g := g0) (off := 0) (cs := #[.slice A0_0 a0.f0.length c0_0]) (e := T0) (fz := (0, 0)) (by kernel_rfl) (by kernel_rfl) (by kernel_rfl) (List.mem_cons_of_mem _ List.mem_cons_self) (by kernel_rfl) ?_
    refine gl_pure 3 [4, 5] (K' := [(4, .int .i64 (a0.f0.length : Int)), (5, .bool false)]) (by kernel_rfl) ?_
    refine gl_atE (by kernel_rfl) ?_
    refine ge_seq ?_
    refine gk_reord (D := (g0, .cells #[.slice A0_0 a0.f0.length c0_0] T0) :: (C0_0 ++ L)) (Reord.step1 (Upd.one _ (Upd.rm1 _ _)) (Reord.step (Upd.one _ (Upd.rmC _ _)) (Reord.skip (Reord.refl _)))) ?_
    refine gk_ret (by kernel_rfl) ?_
    refine ge_seq_ret ?_
    obtain rfl := some_inj hr
    exact ge_result trivial (ResOk.tmp (by kernel_rfl) (ResOk.tmp (by kernel_rfl) ResOk.nil)) (Imm.refl _) ⟨rfl, rfl⟩
  · have hr := cond_f hc4 hr
    refine gk_skip (by kernel_rfl) ?_
    refine ge_seq ?_
    refine gk_seq (by kernel_rfl) ?_
    refine gk_draw 13 [(0, true), (1, true), (2, true), (3, true), (4, true), (5, true), (9, true), (11, true), (6, false), (7, true), (8, false), (10, true), (12, true)] [(g1, .cells #[.string a1.f0, .string a1.f1] 83), (g0, .cells #[.slice A0_0 a0.f0.length c0_0] T0)] (List.forall_mem_cons.2 ⟨List.mem_cons_self, (List.forall_mem_cons.2 ⟨(List.mem_cons_of_mem _ List.mem_cons_self), (fun p hp => by cases hp)⟩)⟩) (by kernel_rfl) (by kernel_rfl) (by kernel_rfl) ?_ (by kernel_rfl)
    refine gd_pure 4 [3, 6, 20, 23] (K' := [(3, .pointer (some ⟨g1, 0, none⟩)), (6, .int .i64 y2), (20, .int .i64 y2), (23, .pointer (some ⟨g0, 0, none⟩))]) (s' := [(4, true), (5, true), (9, true), (11, true), (6, false), (7, true), (8, false), (10, true), (12, true)]) (CC.refl (List.forall_mem_cons.2 ⟨List.mem_cons_self, (List.forall_mem_cons.2 ⟨(List.mem_cons_of_mem _ List.mem_cons_self), (fun p hp => by cases hp)⟩)⟩)) (by kernel_rfl) ?_
    refine gd_q (v := .slice A0_0 a0.f0.length c0_0) (by kernel_rfl) (by kernel_rfl) (CC.refl (List.forall_mem_cons.2 ⟨List.mem_cons_self, (List.forall_mem_cons.2 ⟨(List.mem_cons_of_mem _ List.mem_cons_self), (fun p hp => by cases hp)⟩)⟩)) (fun I' L' T hC kk => gl_loadB (T' := 74) (xp := (.tmp 23)) (v := .slice A0_0 a0.f0.length c0_0) (g := g0) (off := 0) (cs := #[.slice A0_0 a0.f0.length c0_0]) (e := T0) (fz := (0, 0)) (by kernel_rfl) (by kernel_rfl) (by kernel_rfl) (hC.sub _ (List.mem_cons_of_mem _ List.mem_cons_self)) (by kernel_rfl) kk) ?_
    refine gd_pure 1 [3, 20, 24, 25] (K' := [(3, .pointer (some ⟨g1, 0, none⟩)), (20, .int .i64 y2), (24, .slice A0_0 a0.f0.length c0_0), (25, .int .i64 y2)]) (s' := [(9, true), (11, true), (6, false), (7, true), (8, false), (10, true), (12, true)]) (CC.refl (List.forall_mem_cons.2 ⟨List.mem_cons_self, (List.forall_mem_cons.2 ⟨(List.mem_cons_of_mem _ List.mem_cons_self), (fun p hp => by cases hp)⟩)⟩)) (by kernel_rfl) ?_
    refine gd_q (v := .agg #[.string a1.f0, .string a1.f1]) (by kernel_rfl) (by kernel_rfl) (CC.refl (List.forall_mem_cons.2 ⟨List.mem_cons_self, (List.forall_mem_cons.2 ⟨(List.mem_cons_of_mem _ List.mem_cons_self), (fun p hp => by cases hp)⟩)⟩)) (fun I' L' T hC kk => gl_loadB (T' := 83) (xp := (.tmp 3)) (v := .agg #[.string a1.f0, .string a1.f1]) (g := g1) (off := 0) (cs := #[.string a1.f0, .string a1.f1]) (e := 83) (fz := (0, 0)) (by kernel_rfl) (by kernel_rfl) (by kernel_rfl) (hC.sub _ List.mem_cons_self) (by kernel_rfl) kk) ?_
    refine gd_pure 1 [4, 24, 25, 29] (K' := [(4, .int .i64 y2), (24, .slice A0_0 a0.f0.length c0_0), (25, .int .i64 y2), (29, .agg #[.string a1.f0, .string a1.f1])]) (s' := [(6, false), (7, true), (8, false), (10, true), (12, true)]) (CC.refl (List.forall_mem_cons.2 ⟨List.mem_cons_self, (List.forall_mem_cons.2 ⟨(List.mem_cons_of_mem _ List.mem_cons_self), (fun p hp => by cases hp)⟩)⟩)) (by kernel_rfl) ?_
    refine gd_one (by kernel_rfl) ?_
    obtain ⟨x5, hx6, hr⟩ := bind_some hr
    refine gl_indexAddrW (d := kS86) (c := c0_0) (T' := 74) (e := 87) (xs := (.tmp 24)) (xi := (.tmp 25)) (kd := .i64) hx6 hO0_0 (Upd.one _ (Upd.one _ (Upd.selfC _ _))) (by kernel_rfl) (by kernel_rfl) (by kernel_rfl) (by kernel_rfl) (by kernel_rfl) (fun p7 cs8 hR9 hA10 hp19 => ?_)
    obtain ⟨A13, n14, A16, n17, hf15, hf18, rfl⟩ := kS86_open hR9
    refine gl_toD (by kernel_rfl) ⟨(Imm.refl _), (List.forall_mem_cons.2 ⟨List.mem_cons_self, (List.forall_mem_cons.2 ⟨(List.mem_cons_of_mem _ List.mem_cons_self), (fun p hp => by cases hp)⟩)⟩)⟩ ?_
    refine gd_pure 1 [4, 27, 29] (K' := [(4, .int .i64 y2), (27, .pointer (some (p7.add 0))), (29, .agg #[.string a1.f0, .string a1.f1])]) (s' := [(8, false), (10, true), (12, true)]) (CC.refl (List.forall_mem_cons.2 ⟨List.mem_cons_self, (List.forall_mem_cons.2 ⟨(List.mem_cons_of_mem _ List.mem_cons_self), (fun p hp => by cases hp)⟩)⟩)) (by kernel_rfl) ?_
    refine gd_one (by kernel_rfl) ?_
    refine gl_loadOA (T' := 83) (xp := (.tmp 27)) (p := (p7.add 0)) (cs := [.string x5.f0.f0, .string x5.f0.f1]) (by kernel_rfl) (by kernel_rfl) (by kernel_rfl) (by kernel_rfl) ((hA10.drop 0).take 2) ?_
    refine gl_toD (by kernel_rfl) ⟨(Imm.refl _), (List.forall_mem_cons.2 ⟨List.mem_cons_self, (List.forall_mem_cons.2 ⟨(List.mem_cons_of_mem _ List.mem_cons_self), (fun p hp => by cases hp)⟩)⟩)⟩ ?_
    refine gd_q (v := .bool ((x5.f0.f0.toList == a1.f0.toList) && (x5.f0.f1.toList == a1.f1.toList))) (by kernel_rfl) (by kernel_rfl) (CC.refl (List.forall_mem_cons.2 ⟨List.mem_cons_self, (List.forall_mem_cons.2 ⟨(List.mem_cons_of_mem _ List.mem_cons_self), (fun p hp => by cases hp)⟩)⟩)) (fun I' L' T hC kk => gl_eqAgg (cx := #[.string x5.f0.f0, .string x5.f0.f1]) (cy := #[.string a1.f0, .string a1.f1]) (n := false) (t := 83) (t' := 83) (x := (.tmp 28)) (y := (.tmp 29)) (b := ((x5.f0.f0.toList == a1.f0.toList) && (x5.f0.f1.toList == a1.f1.toList))) (by kernel_rfl) (by kernel_rfl) (by kernel_rfl) (by kernel_rfl) (by kernel_rfl) kk) ?_
    refine gd_pure 1 [4, 5] (K' := [(4, .int .i64 y2), (5, .bool ((x5.f0.f0.toList == a1.f0.toList) && (x5.f0.f1.toList == a1.f1.toList)))]) (s' := []) (CC.refl (List.forall_mem_cons.2 ⟨List.mem_cons_self, (List.forall_mem_cons.2 ⟨(List.mem_cons_of_mem _ List.mem_cons_self), (fun p hp => by cases hp)⟩)⟩)) (by kernel_rfl) ?_
    refine gd_done ?_
    refine gl_atE (by kernel_rfl) ?_
    refine ge_seq ?_
    refine gk_reord (D := (g0, .cells #[.slice A0_0 a0.f0.length c0_0] T0) :: (C0_0 ++ L)) (Reord.step1 (Upd.one _ (Upd.rm1 _ _)) (Reord.step (Upd.one _ (Upd.rmC _ _)) (Reord.skip (Reord.refl _)))) ?_
    refine gk_ret (by kernel_rfl) ?_
    obtain rfl := some_inj hr
    exact ge_result trivial (ResOk.tmp (by kernel_rfl) (ResOk.tmp (by kernel_rfl) ResOk.nil)) (Imm.refl _) ⟨rfl, rfl⟩
/-! 112 slices_Clone  -/
noncomputable def slices_Clone (a0 : List S79) : Option (List S79) :=
  Option.bind (app ([] : List S79) a0) fun (zs3 : List S79) =>
  some zs3
theorem slices_Clone_walk {a0 : List S79} {A0_0 : Option Addr} {n0_0 : Nat} {I : Imm} {r : (List S79)}  (hf0_0 : RepS kS79 I A0_0 n0_0 a0) (hr : slices_Clone a0 = some r) (L : Own) :
    CallsTo Tryd.prog 112 #[.slice A0_0 a0.length n0_0] I L (fun v I' L' => ∃ A0 c0 C0, OwnS kS79 80 I' A0 c0 r C0 ∧ v = .slice A0 r.length c0 ∧ C0 ++ L = L') := by
  unfold slices_Clone at hr
  refine callsTo_body (N := 8) Tryd.func112 (by kernel_rfl) (by kernel_rfl) (by kernel_rfl) ?_
  refine gk_pick [0] (K' := [(0, .slice A0_0 a0.length n0_0)]) (by kernel_rfl) ?_
  refine gk_seq (by kernel_rfl) ?_
  refine gk_region (by kernel_rfl) ?_
  refine gl_pure 1 [0] (K' := [(0, .slice A0_0 a0.length n0_0)]) (by kernel_rfl) ?_
  refine gl_atE (by kernel_rfl) ?_
  refine ge_seq ?_
  refine gk_seq (by kernel_rfl) ?_
  refine gk_seq (by kernel_rfl) ?_
  refine gk_region (by kernel_rfl) ?_
  refine gl_pure 1 [0, 3] (K' := [(0, .slice A0_0 a0.length n0_0), (3, .slice A0_0 a0.length n0_0)]) (by kernel_rfl) ?_
  refine gl_eqNil (A := A0_0) (len := a0.length) (c := n0_0) (a := 0) (b := 0) (t := 36) (t' := 36) (x := (.tmp 3)) (y := (.const (.slice none 0 0))) (by kernel_rfl) (by kernel_rfl) (by kernel_rfl) (by kernel_rfl) (by kernel_rfl) ?_
  refine gl_atE (by kernel_rfl) ?_
  refine ge_seq ?_
  refine gk_cond (b := A0_0.isNone) (by kernel_rfl) (by kernel_rfl) (fun hc1 => ?_) (fun hc1 => ?_)
  · have hr := clone_nil hr (RepS.isNil hf0_0 hc1)
    refine gk_seq (by kernel_rfl) ?_
    refine gk_region (by kernel_rfl) ?_
    refine gl_pure 1 [2] (K' := [(2, .slice none 0 0)]) (by kernel_rfl) ?_
    refine gl_atE (by kernel_rfl) ?_
    refine ge_seq ?_
    refine gk_ret (by kernel_rfl) ?_
    refine ge_seq_ret ?_
    obtain rfl := some_inj hr
    exact ge_result trivial (ResOk.tmp (by kernel_rfl) ResOk.nil) (Imm.refl _) ⟨none, 0, [], OwnS.nil _ _ _ _, rfl, rfl⟩
  · refine gk_skip (by kernel_rfl) ?_
    refine ge_seq ?_
    refine gk_seq (by kernel_rfl) ?_
    refine gk_region (by kernel_rfl) ?_
    refine gl_buildSlice0 (T' := 36) (e := 80) (n := 2) (by kernel_rfl) (by kernel_rfl) (by kernel_rfl) (fun g2 => ?_)
    refine gl_reord (D := [(g2, .cells #[] 80)] ++ L) (Reord.refl _) ?_
    refine gl_pure 1 [5, 6] (K' := [(5, .slice (some ⟨g2, 0, none⟩) ([] : List S79).length 0), (6, .slice A0_0 a0.length n0_0)]) (by kernel_rfl) ?_
    obtain ⟨zs3, hz4, hr⟩ := bind_some hr
    refine gl_append (xv := .slice A0_0 a0.length n0_0) (d := kS79) (t := 36) (tx := 36) (e := 80) (s := (.tmp 5)) (x := (.tmp 6)) (xs := ([] : List S79)) (fun X => X ++ L) hz4 (by kernel_rfl) (by kernel_rfl) (by kernel_rfl) (by kernel_rfl) (by kernel_rfl) (by kernel_rfl) (fun X => (Upd.head _ X _)) (OwnS.empty _ _ _ _) (SrcOk.slice (c := n0_0) (e := 80) (n := 2) (RepS.rd hf0_0 _) (by kernel_rfl)) (fun A5 n6 C7 hO8 => ?_)
    refine gl_pure 1 [2] (K' := [(2, .slice A5 zs3.length n6)]) (by kernel_rfl) ?_
    refine gl_atE (by kernel_rfl) ?_
    refine ge_seq ?_
    refine gk_ret (by kernel_rfl) ?_
    obtain rfl := some_inj hr
    exact ge_result trivial (ResOk.tmp (by kernel_rfl) ResOk.nil) (Imm.refl _) ⟨A5, n6, C7, hO8, rfl, rfl⟩
/-! 78 nflog_sets  -/
noncomputable def nflog_sets_l28 (a0 : List (List S79)) : ((List (List S79)) × Int) → Option (((List (List S79)) × Int) ⊕ ((List (List S79)))) := fun s11 =>
  bif (decide (s11.2 < (a0.length : Int))) then
  (Option.bind (ix a0 s11.2) fun (x31 : List S79) =>
    Option.bind (slices_Clone x31) fun (y42 : (List S79)) =>
    Option.bind (app s11.1 [y42]) fun (zs59 : List (List S79)) =>
    some (Sum.inl (zs59, (IntKind.wrap .i64 (s11.2 + 1)))))
  else
  (some (Sum.inr s11.1))
noncomputable def nflog_sets (a0 : List (List S79)) : Option (List (List S79)) :=
  Option.bind (loopO (nflog_sets_l28 a0) ([], 0)) fun (r9 : (List (List S79))) =>
  some r9
theorem nflog_sets_walk {a0 : List (List S79)} {A0_0 : Option Addr} {n0_0 : Nat} {I : Imm} {r : (List (List S79))}  (hf0_0 : RepS (Kd.sl kS79) I A0_0 n0_0 a0) (hr : nflog_sets a0 = some r) (L : Own) :
    CallsTo Tryd.prog 78 #[.slice A0_0 a0.length n0_0] I L (fun v I' L' => ∃ A0 c0 C0, OwnS (Kd.sl kS79) 36 I' A0 c0 r C0 ∧ v = .slice A0 r.length c0 ∧ C0 ++ L = L') := by
  unfold nflog_sets at hr
  refine callsTo_body (N := 19) Tryd.func78 (by kernel_rfl) (by kernel_rfl) (by kernel_rfl) ?_
  refine gk_pick [0] (K' := [(0, .slice A0_0 a0.length n0_0)]) (by kernel_rfl) ?_
  refine gk_seq (by kernel_rfl) ?_
  refine gk_region (by kernel_rfl) ?_
  refine gl_pure 1 [0] (K' := [(0, .slice A0_0 a0.length n0_0)]) (by kernel_rfl) ?_
  refine gl_atE (by kernel_rfl) ?_
  refine ge_seq ?_
  refine gk_seq (by kernel_rfl) ?_
  refine gk_region (by kernel_rfl) ?_
  refine gl_pure 1 [0, 3] (K' := [(0, .slice A0_0 a0.length n0_0), (3, .slice none 0 0)]) (by kernel_rfl) ?_
  refine gl_atE (by kernel_rfl) ?_
  refine ge_seq ?_
  refine gk_seq (by kernel_rfl) ?_
  refine gk_seq (by kernel_rfl) ?_
  refine gk_region (by kernel_rfl) ?_
  refine gl_pure 3 [3, 6, 7, 8] (K' := [(3, .slice none 0 0), (6, .slice A0_0 a0.length n0_0), (7, .int .i64 (a0.length : Int)), (8, .int .i64 0)]) (by kernel_rfl) ?_
  refine gl_atE (by kernel_rfl) ?_
  refine ge_seq ?_
  obtain ⟨r9, hl10, hr⟩ := bind_some hr
  refine gk_join (fun t I' L' => ∃ A22 n23 C24, OwnS (Kd.sl kS79) 36 I' A22 n23 r9 C24 ∧ I ≤ I' ∧ C24 ++ L = L' ∧ Knows 19 [(3, .slice A22 r9.length n23)] t) ?_ ?_
  · refine gk_block (by kernel_rfl) ?_
    refine gk_pick [3, 6, 7, 8] (K' := [(3, .slice none 0 0), (6, .slice A0_0 a0.length n0_0), (7, .int .i64 (a0.length : Int)), (8, .int .i64 0)]) (by kernel_rfl) ?_
    intro t hK
    refine gc_loop (nflog_sets_l28 a0) (fun s11 t I' L' => ∃ A15 n16 C17, OwnS (Kd.sl kS79) 36 I' A15 n16 s11.1 C17 ∧ I ≤ I' ∧ C17 ++ L = L' ∧ Knows 19 [(3, .slice A15 s11.1.length n16), (6, .slice A0_0 a0.length n0_0), (7, .int .i64 (a0.length : Int)), (8, .int .i64 s11.2)] t) (by kernel_rfl) ?_ hl10 ⟨none, 0, [], OwnS.nil _ _ _ _, (Imm.refl _), rfl, hK⟩
    rintro s11 o12 t I20 L' hb13 ⟨A15, n16, C17, hO18, hI14, rfl, hK19⟩
    unfold nflog_sets_l28 at hb13
    refine gk_at hK19 ?_
    refine gk_seq (by kernel_rfl) ?_
    refine gk_region (by kernel_rfl) ?_
    refine gl_pure 1 [3, 6, 7, 8, 9] (K' := [(3, .slice A15 s11.1.length n16), (6, .slice A0_0 a0.length n0_0), (7, .int .i64 (a0.length : Int)), (8, .int .i64 s11.2), (9, .bool (decide (s11.2 < (a0.length : Int))))]) (by kernel_rfl) ?_
    refine gl_atE (by kernel_rfl) ?_
    refine ge_seq ?_
    refine gk_seq (by kernel_rfl) ?_
    refine gk_cond (b := (decide (s11.2 < (a0.length : Int)))) (by kernel_rfl) (by kernel_rfl) (fun hc30 => ?_) (fun hc30 => ?_)
    · have hb13 := cond_t hc30 hb13
      refine gk_skip (by kernel_rfl) ?_
      refine ge_seq ?_
      refine gk_seq (by kernel_rfl) ?_
      refine gk_block (by kernel_rfl) ?_
      refine gk_seq (by kernel_rfl) ?_
      refine gk_region (by kernel_rfl) ?_
      obtain ⟨x31, hx32, hb13⟩ := bind_some hb13
      obtain ⟨p33, cs34, hR35, hA36, ha37⟩ := RepS.ixAt hx32 (hf0_0.mono hI14)
      have hi38 := ix_some hx32
      obtain ⟨A39, n40, rfl, hf41⟩ := sl_open hR35
      refine gl_indexAddrF (c := n0_0) (T' := 22) (e := 36) (xs := (.tmp 6)) (xi := (.tmp 8)) (kd := .i64) ha37 hi38.1 hi38.2.1 (by kernel_rfl) (by kernel_rfl) (by kernel_rfl) (by kernel_rfl) (by kernel_rfl) ?_
      refine gl_load (T' := 36) (xp := (.tmp 10)) (p := p33) (c := .slice A39 x31.length n40) (n := 1) (by kernel_rfl) (by kernel_rfl) (by kernel_rfl) (by kernel_rfl) hA36 ?_
      refine gl_pure 1 [3, 5, 6, 7, 8] (K' := [(3, .slice A15 s11.1.length n16), (5, .slice A39 x31.length n40), (6, .slice A0_0 a0.length n0_0), (7, .int .i64 (a0.length : Int)), (8, .int .i64 s11.2)]) (by kernel_rfl) ?_
      refine gl_atE (by kernel_rfl) ?_
      refine ge_seq ?_
      refine gk_region (by kernel_rfl) ?_
      refine gl_pure 2 [6, 7, 8, 12, 13] (K' := [(6, .slice A0_0 a0.length n0_0), (7, .int .i64 (a0.length : Int)), (8, .int .i64 s11.2), (12, .slice A15 s11.1.length n16), (13, .slice A39 x31.length n40)]) (by kernel_rfl) ?_
      obtain ⟨y42, hx43, hb13⟩ := bind_some hb13
      refine gl_call (by kernel_rfl) (slices_Clone_walk (r := y42) hf41 hx43 _) ?_
      rintro v I44 L45 hI46 ⟨A47, c48, C49, hO50, rfl, rfl⟩
      refine gl_rest (Tk.step (Upd.rmC _ _) (Tk.nil _)) (fun J51 hJ52 hC53 => ?_)
      have hf54 := (OwnS.rest hO50 hJ52 hC53.left)
      refine gl_buildSlice (T' := 22) (e := 36) (n := 1) (len := 1) (parts := #[(0, (.tmp 14))]) (l := [(0, .slice A47 y42.length c48)]) (cs := #[.slice A47 y42.length c48]) (by kernel_rfl) (by kernel_rfl) (by kernel_rfl) (by kernel_rfl) (by kernel_rfl) (fun g55 => ?_)
      have hO56 : OwnS (Kd.sl kS79) 36 J51 (some ⟨g55, 0, none⟩) 1 [y42] [(g55, .cells #[.slice A47 y42.length c48] 36)] := OwnS.lit (row_cons (l := [.slice A47 y42.length c48]) ⟨_, _, rfl, hf54⟩ (row_nil _ _)) rfl rfl rfl
      refine gl_reord (D := [(g55, .cells #[.slice A47 y42.length c48] 36)] ++ (C17 ++ L)) (Reord.refl _) ?_
      obtain ⟨zs59, hz60, hb13⟩ := bind_some hb13
      refine gl_append (xv := .slice (some ⟨g55, 0, none⟩) [y42].length 1) (d := (Kd.sl kS79)) (t := 22) (tx := 22) (e := 36) (s := (.tmp 12)) (x := (.tmp 15)) (xs := s11.1) (fun X => [(g55, .cells #[.slice A47 y42.length c48] 36)] ++ (X ++ L)) hz60 (by kernel_rfl) (by kernel_rfl) (by kernel_rfl) (by kernel_rfl) (by kernel_rfl) (by kernel_rfl) (fun X => (Upd.app _ (Upd.head _ X _))) (hO18.mono (Imm.trans hI46 hJ52)) (SrcOk.slice (c := 1) (e := 36) (n := 1) (OwnS.rd hO56 (Upd.selfC _ _)) (by kernel_rfl)) (fun A61 n62 C63 hO64 => ?_)
      refine gl_pure 1 [3, 6, 7, 8] (K' := [(3, .slice A61 zs59.length n62), (6, .slice A0_0 a0.length n0_0), (7, .int .i64 (a0.length : Int)), (8, .int .i64 s11.2)]) (by kernel_rfl) ?_
      refine gl_atE (by kernel_rfl) ?_
      refine ge_block_normal ?_
      refine ge_seq ?_
      refine gk_region (by kernel_rfl) ?_
      refine gl_pure 2 [3, 6, 7, 8] (K' := [(3, .slice A61 zs59.length n62), (6, .slice A0_0 a0.length n0_0), (7, .int .i64 (a0.length : Int)), (8, .int .i64 (IntKind.wrap .i64 (s11.2 + 1)))]) (by kernel_rfl) ?_
      refine gl_reord (D := C63 ++ L) (Reord.step (Upd.app _ (Upd.rmC _ _)) (Reord.skipC (Reord.refl _))) ?_
      refine gl_atE (by kernel_rfl) ?_
      obtain rfl := some_inj hb13
      exact ge_round fun t ht => ⟨A61, n62, C63, hO64, (Imm.trans (Imm.trans hI14 hI46) hJ52), rfl, ht.pick (l := [3, 6, 7, 8]) (by kernel_rfl)⟩
    · have hb13 := cond_f hc30 hb13
      refine gk_exit (by kernel_rfl) ?_
      refine ge_seq_exit ?_
      obtain rfl := some_inj hb13
      refine ge_round_out (fun hrr => ?_) (by intro h; cases h)
      obtain rfl := hrr
      refine ge_block_hit (by kernel_rfl) ?_
      exact ge_mid fun t ht => ⟨A15, n16, C17, hO18, hI14, rfl, ht.pick (l := [3]) (by kernel_rfl)⟩
  · rintro t I27 L' ⟨A22, n23, C24, hO25, hI21, rfl, hK26⟩
    refine ge_at hK26 ?_
    refine ge_seq ?_
    refine gk_seq (by kernel_rfl) ?_
    refine gk_region (by kernel_rfl) ?_
    refine gl_pure 2 [2] (K' := [(2, .slice A22 r9.length n23)]) (by kernel_rfl) ?_
    refine gl_atE (by kernel_rfl) ?_
    refine ge_seq ?_
    refine gk_ret (by kernel_rfl) ?_
    obtain rfl := some_inj hr
    exact ge_result trivial (ResOk.tmp (by kernel_rfl) ResOk.nil) hI21 ⟨A22, n23, C24, hO25, rfl, rfl⟩
/-! 41 nflog_own  -/
noncomputable def nflog_own (a0 : S23) : Option S23 :=
  Option.bind (nflog_sets a0.f3) fun (y3 : (List (List S79))) =>
  Option.bind (nflog_sets a0.f4) fun (y12 : (List (List S79))) =>
  some (⟨a0.f0, a0.f1, a0.f2, y3, y12⟩ : S23)
theorem nflog_own_walk {a0 : S23} {A0_3 : Option Addr} {n0_3 : Nat} {A0_4 : Option Addr} {n0_4 : Nat} {I : Imm} {r : S23}  (hf0_3 : RepS (Kd.sl kS79) I A0_3 n0_3 a0.f3) (hf0_4 : RepS (Kd.sl kS79) I A0_4 n0_4 a0.f4) (hr : nflog_own a0 = some r) (L : Own) :
    CallsTo Tryd.prog 41 #[.agg #[.string a0.f0, .string a0.f1, .int .i64 a0.f2, .slice A0_3 a0.f3.length n0_3, .slice A0_4 a0.f4.length n0_4]] I L (fun v I' L' => ∃ A0_3 c0_3 A0_4 c0_4, RepS (Kd.sl kS79) I' A0_3 c0_3 r.f3 ∧ RepS (Kd.sl kS79) I' A0_4 c0_4 r.f4 ∧ v = .agg #[.string r.f0, .string r.f1, .int .i64 r.f2, .slice A0_3 r.f3.length c0_3, .slice A0_4 r.f4.length c0_4] ∧ L = L') := by
  unfold nflog_own at hr
  refine callsTo_body (N := 12) Tryd.func41 (by kernel_rfl) (by kernel_rfl) (by kernel_rfl) ?_
  refine gk_pick [0] (K' := [(0, .agg #[.string a0.f0, .string a0.f1, .int .i64 a0.f2, .slice A0_3 a0.f3.length n0_3, .slice A0_4 a0.f4.length n0_4])]) (by kernel_rfl) ?_
  refine gk_seq (by kernel_rfl) ?_
  refine gk_region (by kernel_rfl) ?_
  refine gl_box (T' := 24) (x := (.tmp 0)) (v := .agg #[.string a0.f0, .string a0.f1, .int .i64 a0.f2, .slice A0_3 a0.f3.length n0_3, .slice A0_4 a0.f4.length n0_4]) (cs := #[.string a0.f0, .string a0.f1, .int .i64 a0.f2, .slice A0_3 a0.f3.length n0_3, .slice A0_4 a0.f4.length n0_4]) (by kernel_rfl) (by kernel_rfl) (by kernel_rfl) (by kernel_rfl) (fun g1 => ?_)
  refine gl_alloc (T' := 24) (cs := #[.string (⟨#[]⟩ : ByteArray), .string (⟨#[]⟩ : ByteArray), .int .i64 0, .slice none 0 0, .slice none 0 0]) (by kernel_rfl) (by kernel_rfl) (by kernel_rfl) (fun g2 => ?_)
  refine gl_atE (by kernel_rfl) ?_
  refine ge_seq ?_
  refine gk_seq (by kernel_rfl) ?_
  refine gk_draw 7 [(0, true), (1, true), (3, true), (4, true), (2, false), (6, true), (5, false)] [(g2, .cells #[.string (⟨#[]⟩ : ByteArray), .string (⟨#[]⟩ : ByteArray), .int .i64 0, .slice none 0 0, .slice none 0 0] 24), (g1, .cells #[.string a0.f0, .string a0.f1, .int .i64 a0.f2, .slice A0_3 a0.f3.length n0_3, .slice A0_4 a0.f4.length n0_4] 24)] (List.forall_mem_cons.2 ⟨List.mem_cons_self, (List.forall_mem_cons.2 ⟨(List.mem_cons_of_mem _ List.mem_cons_self), (fun p hp => by cases hp)⟩)⟩) (by kernel_rfl) (by kernel_rfl) (by kernel_rfl) ?_ (by kernel_rfl)
  refine gd_pure 1 [1, 2, 3] (K' := [(1, .pointer (some ⟨g1, 0, none⟩)), (2, .pointer (some ⟨g2, 0, none⟩)), (3, .pointer (some ⟨g1, 3, none⟩))]) (s' := [(1, true), (3, true), (4, true), (2, false), (6, true), (5, false)]) (CC.refl (List.forall_mem_cons.2 ⟨List.mem_cons_self, (List.forall_mem_cons.2 ⟨(List.mem_cons_of_mem _ List.mem_cons_self), (fun p hp => by cases hp)⟩)⟩)) (by kernel_rfl) ?_
  refine gd_q (v := .slice A0_3 a0.f3.length n0_3) (by kernel_rfl) (by kernel_rfl) (CC.refl (List.forall_mem_cons.2 ⟨List.mem_cons_self, (List.forall_mem_cons.2 ⟨(List.mem_cons_of_mem _ List.mem_cons_self), (fun p hp => by cases hp)⟩)⟩)) (fun I' L' T hC kk => gl_loadB (T' := 22) (xp := (.tmp 3)) (v := .slice A0_3 a0.f3.length n0_3) (g := g1) (off := 3) (cs := #[.string a0.f0, .string a0.f1, .int .i64 a0.f2, .slice A0_3 a0.f3.length n0_3, .slice A0_4 a0.f4.length n0_4]) (e := 24) (fz := (0, 0)) (by kernel_rfl) (by kernel_rfl) (by kernel_rfl) (hC.sub _ (List.mem_cons_of_mem _ List.mem_cons_self)) (by kernel_rfl) kk) ?_
  refine gd_pure 1 [1, 2, 4, 6] (K' := [(1, .pointer (some ⟨g1, 0, none⟩)), (2, .pointer (some ⟨g2, 0, none⟩)), (4, .slice A0_3 a0.f3.length n0_3), (6, .pointer (some ⟨g1, 4, none⟩))]) (s' := [(4, true), (2, false), (6, true), (5, false)]) (CC.refl (List.forall_mem_cons.2 ⟨List.mem_cons_self, (List.forall_mem_cons.2 ⟨(List.mem_cons_of_mem _ List.mem_cons_self), (fun p hp => by cases hp)⟩)⟩)) (by kernel_rfl) ?_
  refine gd_q (v := .slice A0_4 a0.f4.length n0_4) (by kernel_rfl) (by kernel_rfl) (CC.refl (List.forall_mem_cons.2 ⟨List.mem_cons_self, (List.forall_mem_cons.2 ⟨(List.mem_cons_of_mem _ List.mem_cons_self), (fun p hp => by cases hp)⟩)⟩)) (fun I' L' T hC kk => gl_loadB (T' := 22) (xp := (.tmp 6)) (v := .slice A0_4 a0.f4.length n0_4) (g := g1) (off := 4) (cs := #[.string a0.f0, .string a0.f1, .int .i64 a0.f2, .slice A0_3 a0.f3.length n0_3, .slice A0_4 a0.f4.length n0_4]) (e := 24) (fz := (0, 0)) (by kernel_rfl) (by kernel_rfl) (by kernel_rfl) (hC.sub _ (List.mem_cons_of_mem _ List.mem_cons_self)) (by kernel_rfl) kk) ?_
  refine gd_one (by kernel_rfl) ?_
  obtain ⟨y3, hx4, hr⟩ := bind_some hr
  refine gl_call (by kernel_rfl) (nflog_sets_walk (r := y3) hf0_3 hx4 _) ?_
  rintro v I5 L6 hI7 ⟨A8, c9, C10, hO11, rfl, rfl⟩
  refine gl_toD (by kernel_rfl) ⟨hI7, (List.forall_mem_cons.2 ⟨(List.mem_append_right _ List.mem_cons_self), (List.forall_mem_cons.2 ⟨(List.mem_append_right _ (List.mem_cons_of_mem _ List.mem_cons_self)), (fun p hp => by cases hp)⟩)⟩)⟩ ?_
  refine gd_pure 1 [1, 2, 5, 7, 9] (K' := [(1, .pointer (some ⟨g1, 0, none⟩)), (2, .pointer (some ⟨g2, 0, none⟩)), (5, .slice A8 y3.length c9), (7, .slice A0_4 a0.f4.length n0_4), (9, .pointer (some ⟨g1, 3, none⟩))]) (s' := [(5, false)]) (CC.refl (List.forall_mem_cons.2 ⟨(List.mem_append_right _ List.mem_cons_self), (List.forall_mem_cons.2 ⟨(List.mem_append_right _ (List.mem_cons_of_mem _ List.mem_cons_self)), (fun p hp => by cases hp)⟩)⟩)) (by kernel_rfl) ?_
  refine gd_one (by kernel_rfl) ?_
  obtain ⟨y12, hx13, hr⟩ := bind_some hr
  refine gl_call (by kernel_rfl) (nflog_sets_walk (r := y12) (hf0_4.mono hI7) hx13 _) ?_
  rintro v I14 L15 hI16 ⟨A17, c18, C19, hO20, rfl, rfl⟩
  refine gl_toD (by kernel_rfl) ⟨hI16, (List.forall_mem_cons.2 ⟨(List.mem_append_right _ (List.mem_append_right _ List.mem_cons_self)), (List.forall_mem_cons.2 ⟨(List.mem_append_right _ (List.mem_append_right _ (List.mem_cons_of_mem _ List.mem_cons_self))), (fun p hp => by cases hp)⟩)⟩)⟩ ?_
  refine gd_done ?_
  refine gl_storeB (T' := 22) (xp := (.tmp 9)) (xv := (.tmp 5)) (v := .slice A8 y3.length c9) (g := g1) (off := 3) (cs := #[.string a0.f0, .string a0.f1, .int .i64 a0.f2, .slice A0_3 a0.f3.length n0_3, .slice A0_4 a0.f4.length n0_4]) (cs' := #[.string a0.f0, .string a0.f1, .int .i64 a0.f2, .slice A8 y3.length c9, .slice A0_4 a0.f4.length n0_4]) (by kernel_rfl) (by kernel_rfl) (by kernel_rfl) (by kernel_rfl) (by kernel_rfl) (Upd.app _ (Upd.app _ (Upd.one _ (Upd.set _ _ _ _)))) ?_ (by kernel_rfl)
  refine gl_pure 1 [1, 2, 8, 10] (K' := [(1, .pointer (some ⟨g1, 0, none⟩)), (2, .pointer (some ⟨g2, 0, none⟩)), (8, .slice A17 y12.length c18), (10, .pointer (some ⟨g1, 4, none⟩))]) (by kernel_rfl) ?_
  refine gl_storeB (T' := 22) (xp := (.tmp 10)) (xv := (.tmp 8)) (v := .slice A17 y12.length c18) (g := g1) (off := 4) (cs := #[.string a0.f0, .string a0.f1, .int .i64 a0.f2, .slice A8 y3.length c9, .slice A0_4 a0.f4.length n0_4]) (cs' := #[.string a0.f0, .string a0.f1, .int .i64 a0.f2, .slice A8 y3.length c9, .slice A17 y12.length c18]) (by kernel_rfl) (by kernel_rfl) (by kernel_rfl) (by kernel_rfl) (by kernel_rfl) (Upd.app _ (Upd.app _ (Upd.one _ (Upd.set _ _ _ _)))) ?_ (by kernel_rfl)
  refine gl_atE (by kernel_rfl) ?_
  refine ge_seq ?_
  refine gk_seq (by kernel_rfl) ?_
  refine gk_region (by kernel_rfl) ?_
  refine gl_loadB (T' := 24) (xp := (.tmp 1)) (v := .agg #[.string a0.f0, .string a0.f1, .int .i64 a0.f2, .slice A8 y3.length c9, .slice A17 y12.length c18]) (g := g1) (off := 0) (cs := #[.string a0.f0, .string a0.f1, .int .i64 a0.f2, .slice A8 y3.length c9, .slice A17 y12.length c18]) (e := 24) (fz := (0, 0)) (by kernel_rfl) (by kernel_rfl) (by kernel_rfl) (List.mem_append_right _ (List.mem_append_right _ (List.mem_cons_of_mem _ List.mem_cons_self))) (by kernel_rfl) ?_
  refine gl_storeB (T' := 24) (xp := (.tmp 2)) (xv := (.tmp 11)) (v := .agg #[.string a0.f0, .string a0.f1, .int .i64 a0.f2, .slice A8 y3.length c9, .slice A17 y12.length c18]) (g := g2) (off := 0) (cs := #[.string (⟨#[]⟩ : ByteArray), .string (⟨#[]⟩ : ByteArray), .int .i64 0, .slice none 0 0, .slice none 0 0]) (cs' := #[.string a0.f0, .string a0.f1, .int .i64 a0.f2, .slice A8 y3.length c9, .slice A17 y12.length c18]) (by kernel_rfl) (by kernel_rfl) (by kernel_rfl) (by kernel_rfl) (by kernel_rfl) (Upd.app _ (Upd.app _ (Upd.set _ _ _ _))) ?_ (by kernel_rfl)
  refine gl_atE (by kernel_rfl) ?_
  refine ge_seq ?_
  refine gk_rest (Tk.step (Upd.rmC _ _) (Tk.step (Upd.rmC _ _) (Tk.step (Upd.rm1 _ _) (Tk.nil _)))) (fun J21 hJ22 hC23 => ?_)
  have hf24 := (OwnS.rest hO20 hJ22 hC23.left)
  have hf25 := (OwnS.rest (hO11.mono hI16) hJ22 hC23.right.left)
  have hf26 := hC23.right.right.left.blk
  refine gk_reord (D := L) (Reord.skip (Reord.refl _)) ?_
  refine gk_ret (by kernel_rfl) ?_
  obtain rfl := some_inj hr
  exact ge_result trivial (ResOk.cell (v := .agg #[.string a0.f0, .string a0.f1, .int .i64 a0.f2, .slice A8 y3.length c9, .slice A17 y12.length c18]) (by kernel_rfl) (loadR_agg (cs := [.string a0.f0, .string a0.f1, .int .i64 a0.f2, .slice A8 y3.length c9, .slice A17 y12.length c18]) (by kernel_rfl) (RunAt.take hf26 5)) ResOk.nil) (Imm.trans (Imm.trans hI7 hI16) hJ22) ⟨A8, c9, A17, c18, hf25, hf24, rfl, rfl⟩
/-! 13 nflog_Log_Find ('obj', 'imm', 'imm') -/
noncomputable def nflog_Log_Find (a0 : S77) (a1 : ByteArray) (a2 : ByteArray) : Option (S23 × Bool) :=
  Option.bind (nflog_list_find a0.f0 (⟨a1, a2⟩ : S82)) fun (y2 : Int × Bool) =>
  bif (!y2.2) then
  (some ((⟨(⟨#[]⟩ : ByteArray), (⟨#[]⟩ : ByteArray), 0, [], []⟩ : S23), false))
  else
  (Option.bind (ix a0.f0.f0 y2.1) fun (x12 : S86) =>
    Option.bind (nflog_own x12.f1) fun (y27 : S23) =>
    some (y27, true))
theorem nflog_Log_Find_walk {a0 : S77} {g0 : Nat} {T0 : TypeId} {A0_0 : Option Addr} {c0_0 : Nat} {C0_0 : Own} {a1 : ByteArray} {a2 : ByteArray} {I : Imm} {r : S23 × Bool}  (hO0_0 : OwnS kS86 87 I A0_0 c0_0 a0.f0.f0 C0_0) (hr : nflog_Log_Find a0 a1 a2 = some r) (L : Own) :
    CallsTo Tryd.prog 13 #[.pointer (some ⟨g0, 0, none⟩), .string a1, .string a2] I ((g0, .cells #[.slice A0_0 a0.f0.f0.length c0_0] T0) :: (C0_0 ++ L)) (fun v I' L' => ∃ A0_3 c0_3 A0_4 c0_4, RepS (Kd.sl kS79) I' A0_3 c0_3 r.1.f3 ∧ RepS (Kd.sl kS79) I' A0_4 c0_4 r.1.f4 ∧ v = .tuple #[.agg #[.string r.1.f0, .string r.1.f1, .int .i64 r.1.f2, .slice A0_3 r.1.f3.length c0_3, .slice A0_4 r.1.f4.length c0_4], .bool r.2] ∧ (g0, .cells #[.slice A0_0 a0.f0.f0.length c0_0] T0) :: (C0_0 ++ L) = L') := by
  unfold nflog_Log_Find at hr
  refine callsTo_body (N := 36) Tryd.func13 (by kernel_rfl) (by kernel_rfl) (by kernel_rfl) ?_
  refine gk_pick [0, 1, 2] (K' := [(0, .pointer (some ⟨g0, 0, none⟩)), (1, .string a1), (2, .string a2)]) (by kernel_rfl) ?_
  refine gk_seq (by kernel_rfl) ?_
  refine gk_region (by kernel_rfl) ?_
  refine gl_alloc (T' := 24) (cs := #[.string (⟨#[]⟩ : ByteArray), .string (⟨#[]⟩ : ByteArray), .int .i64 0, .slice none 0 0, .slice none 0 0]) (by kernel_rfl) (by kernel_rfl) (by kernel_rfl) (fun g1 => ?_)
  refine gl_pure 1 [0, 1, 2, 6] (K' := [(0, .pointer (some ⟨g0, 0, none⟩)), (1, .string a1), (2, .string a2), (6, .pointer (some ⟨g1, 0, none⟩))]) (by kernel_rfl) ?_
  refine gl_atE (by kernel_rfl) ?_
  refine ge_seq ?_
  refine gk_seq (by kernel_rfl) ?_
  refine gk_seq (by kernel_rfl) ?_
  refine gk_region (by kernel_rfl) ?_
  refine gl_pure 2 [0, 1, 2, 6, 11] (K' := [(0, .pointer (some ⟨g0, 0, none⟩)), (1, .string a1), (2, .string a2), (6, .pointer (some ⟨g1, 0, none⟩)), (11, .bool false)]) (by kernel_rfl) ?_
  refine gl_atE (by kernel_rfl) ?_
  refine ge_seq ?_
  refine gk_cond (b := false) (by kernel_rfl) (by kernel_rfl) (fun h => by cases h) (fun _ => ?_)
  refine gk_skip (by kernel_rfl) ?_
  refine ge_seq ?_
  refine gk_seq (by kernel_rfl) ?_
  refine gk_region (by kernel_rfl) ?_
  refine gl_pure 6 [0, 6, 16, 19] (K' := [(0, .pointer (some ⟨g0, 0, none⟩)), (6, .pointer (some ⟨g1, 0, none⟩)), (16, .pointer (some ⟨g0, 0, none⟩)), (19, .agg #[.string a1, .string a2])]) (by kernel_rfl) ?_
  obtain ⟨y2, hx3, hr⟩ := bind_some hr
  refine gl_reord (D := (g0, .cells #[.slice A0_0 a0.f0.f0.length c0_0] T0) :: (C0_0 ++ ((g1, .cells #[.string (⟨#[]⟩ : ByteArray), .string (⟨#[]⟩ : ByteArray), .int .i64 0, .slice none 0 0, .slice none 0 0] 24) :: L))) (Reord.step1 (Upd.one _ (Upd.rm1 _ _)) (Reord.step (Upd.one _ (Upd.rmC _ _)) (Reord.step1 (Upd.rm1 _ _) (Reord.refl _)))) ?_
  refine gl_call (by kernel_rfl) (nflog_list_find_walk (r := y2) (g0 := g0) (T0 := T0) (A0_0 := A0_0) (c0_0 := c0_0) (C0_0 := C0_0) (a0 := a0.f0) hO0_0 hx3 _) ?_
  rintro v I4 L5 hI6 ⟨rfl, rfl⟩
  refine gl_pure 5 [0, 6, 8, 9] (K' := [(0, .pointer (some ⟨g0, 0, none⟩)), (6, .pointer (some ⟨g1, 0, none⟩)), (8, .int .i64 y2.1), (9, .bool y2.2)]) (by kernel_rfl) ?_
  refine gl_atE (by kernel_rfl) ?_
  refine ge_seq ?_
  refine gk_seq (by kernel_rfl) ?_
  refine gk_seq (by kernel_rfl) ?_
  refine gk_region (by kernel_rfl) ?_
  refine gl_pure 2 [0, 6, 8, 24] (K' := [(0, .pointer (some ⟨g0, 0, none⟩)), (6, .pointer (some ⟨g1, 0, none⟩)), (8, .int .i64 y2.1), (24, .bool (!y2.2))]) (by kernel_rfl) ?_
  refine gl_atE (by kernel_rfl) ?_
  refine ge_seq ?_
  refine gk_cond (b := (!y2.2)) (by kernel_rfl) (by kernel_rfl) (fun hc7 => ?_) (fun hc7 => ?_)
  · have hr := cond_t hc7 hr
    refine gk_seq (by kernel_rfl) ?_
    refine gk_region (by kernel_rfl) ?_
    refine gl_pure 1 [6, 25] (K' := [(6, .pointer (some ⟨g1, 0, none⟩)), (25, .agg #[.string (⟨#[]⟩ : ByteArray), .string (⟨#[]⟩ : ByteArray), .int .i64 0, .slice none 0 0, .slice none 0 0])]) (by kernel_rfl) ?_
    refine gl_storeB (T' := 24) (xp := (.tmp 6)) (xv := (.tmp 25)) (v := .agg #[.string (⟨#[]⟩ : ByteArray), .string (⟨#[]⟩ : ByteArray), .int .i64 0, .slice none 0 0, .slice none 0 0]) (g := g1) (off := 0) (cs := #[.string (⟨#[]⟩ : ByteArray), .string (⟨#[]⟩ : ByteArray), .int .i64 0, .slice none 0 0, .slice none 0 0]) (cs' := #[.string (⟨#[]⟩ : ByteArray), .string (⟨#[]⟩ : ByteArray), .int .i64 0, .slice none 0 0, .slice none 0 0]) (by kernel_rfl) (by kernel_rfl) (by kernel_rfl) (by kernel_rfl) (by kernel_rfl) (Upd.one _ (Upd.app _ (Upd.set _ _ _ _))) ?_ (by kernel_rfl)
    refine gl_pure 1 [6, 7] (K' := [(6, .pointer (some ⟨g1, 0, none⟩)), (7, .bool false)]) (by kernel_rfl) ?_
    refine gl_atE (by kernel_rfl) ?_
    refine ge_seq ?_
    refine gk_rest (Tk.step (Upd.one _ (Upd.app _ (Upd.rm1 _ _))) (Tk.nil _)) (fun J8 hJ9 hC10 => ?_)
    have hf11 := hC10.left.blk
    refine gk_ret (by kernel_rfl) ?_
    refine ge_seq_ret ?_
    obtain rfl := some_inj hr
    exact ge_result trivial (ResOk.cell (v := .agg #[.string (⟨#[]⟩ : ByteArray), .string (⟨#[]⟩ : ByteArray), .int .i64 0, .slice none 0 0, .slice none 0 0]) (by kernel_rfl) (loadR_agg (cs := [.string (⟨#[]⟩ : ByteArray), .string (⟨#[]⟩ : ByteArray), .int .i64 0, .slice none 0 0, .slice none 0 0]) (by kernel_rfl) (RunAt.take hf11 5)) (ResOk.tmp (by kernel_rfl) ResOk.nil)) (Imm.trans hI6 hJ9) ⟨none, 0, none, 0, RepS.nil _ _, RepS.nil _ _, rfl, rfl⟩
  · have hr := cond_f hc7 hr
    refine gk_skip (by kernel_rfl) ?_
    refine ge_seq ?_
    refine gk_seq (by kernel_rfl) ?_
    refine gk_region (by kernel_rfl) ?_
    refine gl_pure 4 [6, 8, 29] (K' := [(6, .pointer (some ⟨g1, 0, none⟩)), (8, .int .i64 y2.1), (29, .pointer (some ⟨g0, 0, none⟩))]) (by kernel_rfl) ?_
    refine gl_loadB (T' := 74) (xp := (.tmp 29)) (v := .slice A0_0 a0.f0.f0.length c0_0) (g := g0) (off := 0) (cs := #[.slice A0_0 a0.f0.f0.length c0_0]) (e := T0) (fz := (0, 0)) (by kernel_rfl) (by kernel_rfl) (by kernel_rfl) List.mem_cons_self (by kernel_rfl) ?_
    refine gl_pure 1 [6, 30, 31] (K' := [(6, .pointer (some ⟨g1, 0, none⟩)), (30, .slice A0_0 a0.f0.f0.length c0_0), (31, .int .i64 y2.1)]) (by kernel_rfl) ?_
    obtain ⟨x12, hx13, hr⟩ := bind_some hr
    refine gl_indexAddrW (d := kS86) (c := c0_0) (T' := 74) (e := 87) (xs := (.tmp 30)) (xi := (.tmp 31)) (kd := .i64) hx13 (hO0_0.mono hI6) (Upd.one _ (Upd.selfC _ _)) (by kernel_rfl) (by kernel_rfl) (by kernel_rfl) (by kernel_rfl) (by kernel_rfl) (fun p14 cs15 hR16 hA17 hp26 => ?_)
    obtain ⟨A20, n21, A23, n24, hf22, hf25, rfl⟩ := kS86_open hR16
    refine gl_pure 1 [6, 33] (K' := [(6, .pointer (some ⟨g1, 0, none⟩)), (33, .pointer (some (p14.add 2)))]) (by kernel_rfl) ?_
    refine gl_loadOA (T' := 24) (xp := (.tmp 33)) (p := (p14.add 2)) (cs := [.string x12.f1.f0, .string x12.f1.f1, .int .i64 x12.f1.f2, .slice A20 x12.f1.f3.length n21, .slice A23 x12.f1.f4.length n24]) (by kernel_rfl) (by kernel_rfl) (by kernel_rfl) (by kernel_rfl) ((hA17.drop 2).take 5) ?_
    obtain ⟨y27, hx28, hr⟩ := bind_some hr
    refine gl_call (by kernel_rfl) (nflog_own_walk (r := y27) hf22 hf25 hx28 _) ?_
    rintro v I29 L30 hI31 ⟨A32, c33, A34, c35, hf36, hf37, rfl, rfl⟩
    refine gl_storeB (T' := 24) (xp := (.tmp 6)) (xv := (.tmp 35)) (v := .agg #[.string y27.f0, .string y27.f1, .int .i64 y27.f2, .slice A32 y27.f3.length c33, .slice A34 y27.f4.length c35]) (g := g1) (off := 0) (cs := #[.string (⟨#[]⟩ : ByteArray), .string (⟨#[]⟩ : ByteArray), .int .i64 0, .slice none 0 0, .slice none 0 0]) (cs' := #[.string y27.f0, .string y27.f1, .int .i64 y27.f2, .slice A32 y27.f3.length c33, .slice A34 y27.f4.length c35]) (by kernel_rfl) (by kernel_rfl) (by kernel_rfl) (by kernel_rfl) (by kernel_rfl) (Upd.one _ (Upd.app _ (Upd.set _ _ _ _))) ?_ (by kernel_rfl)
    refine gl_pure 1 [6, 7] (K' := [(6, .pointer (some ⟨g1, 0, none⟩)), (7, .bool true)]) (by kernel_rfl) ?_
    refine gl_atE (by kernel_rfl) ?_
    refine ge_seq ?_
    refine gk_rest (Tk.step (Upd.one _ (Upd.app _ (Upd.rm1 _ _))) (Tk.nil _)) (fun J38 hJ39 hC40 => ?_)
    have hf41 := hC40.left.blk
    refine gk_ret (by kernel_rfl) ?_
    obtain rfl := some_inj hr
    exact ge_result trivial (ResOk.cell (v := .agg #[.string y27.f0, .string y27.f1, .int .i64 y27.f2, .slice A32 y27.f3.length c33, .slice A34 y27.f4.length c35]) (by kernel_rfl) (loadR_agg (cs := [.string y27.f0, .string y27.f1, .int .i64 y27.f2, .slice A32 y27.f3.length c33, .slice A34 y27.f4.length c35]) (by kernel_rfl) (RunAt.take hf41 5)) (ResOk.tmp (by kernel_rfl) ResOk.nil)) (Imm.trans (Imm.trans hI6 hI31) hJ39) ⟨A32, c33, A34, c35, (hf36.mono hJ39), (hf37.mono hJ39), rfl, rfl⟩
structure Fn122 (I : Imm) (fv : Value) (f : (List S79) → Option Bool) : Prop where
  out : ∀ I', I ≤ I' → ∀ (x0 : List S79) (r : Bool), f x0 = some r → ∀ A0_0 c0_0, RepS kS79 I' A0_0 c0_0 x0 → ∀ L, CallsV Tryd.prog fv [.slice A0_0 x0.length c0_0] I' L (fun v I' L' => v = .bool r ∧ L = L')
theorem Fn122.mono {I J : Imm} {fv : Value} {f : (List S79) → Option Bool} (h : Fn122 I fv f) (hI : I ≤ J) : Fn122 J fv f := ⟨fun I' hI' => h.out I' (Imm.trans hI hI')⟩
end Go.Proofs.YtlkmfhccpcncnaaDoor
