import Derived.Test.YtlkmfhccpcncnaaDoorO9a
set_option linter.unusedVariables false
set_option linter.unusedSimpArgs false
set_option maxRecDepth 100000
namespace Go.Proofs.YtlkmfhccpcncnaaDoor
open Go.GB
/-! 12 nflog_Log_Put ('obj', 'imm') -/
noncomputable def nflog_Log_Put (a0 : S77) (a1 : S23) : Option (Int × S77) :=
  Option.bind (nflog_Right a1) fun (y2 : Int) =>
  bif (y2 != 0) then
  (some (y2, a0))
  else
  (Option.bind (nflog_Log_Find a0 a1.f0 a1.f1) fun (y5 : S23 × Bool) =>
    bif (y5.2 && (decide (y5.1.f2 > a1.f2))) then
    (some (90, a0))
    else
    (Option.bind (bif (!y5.2) then
        (some (decide ((nflog_Log_Len a0) ≥ 500)))
        else
        (some false)) fun (j24 : Bool) =>
      bif j24 then
      (some (8, a0))
      else
      (Option.bind (nflog_own a1) fun (y34 : S23) =>
        Option.bind (nflog_list_put a0.f0 (⟨a1.f0, a1.f1⟩ : S82) y34) fun (y45 : S75) =>
        some (0, (⟨(⟨y45.f0⟩ : S75)⟩ : S77)))))
theorem nflog_Log_Put_walk {a0 : S77} {g0 : Nat} {T0 : TypeId} {A0_0 : Option Addr} {c0_0 : Nat} {C0_0 : Own} {a1 : S23} {A1_3 : Option Addr} {n1_3 : Nat} {A1_4 : Option Addr} {n1_4 : Nat} {I : Imm} {r : Int × S77} (hG : Gl I)  (hO0_0 : OwnS kS86 87 I A0_0 c0_0 a0.f0.f0 C0_0)  (hf1_3 : RepS (Kd.sl kS79) I A1_3 n1_3 a1.f3) (hf1_4 : RepS (Kd.sl kS79) I A1_4 n1_4 a1.f4) (hr : nflog_Log_Put a0 a1 = some r) (L : Own) :
    CallsTo Tryd.prog 12 #[.pointer (some ⟨g0, 0, none⟩), .agg #[.string a1.f0, .string a1.f1, .int .i64 a1.f2, .slice A1_3 a1.f3.length n1_3, .slice A1_4 a1.f4.length n1_4]] I ((g0, .cells #[.slice A0_0 a0.f0.f0.length c0_0] T0) :: (C0_0 ++ L)) (fun v I' L' => ∃ A1_0 c1_0 C1_0, OwnS kS86 87 I' A1_0 c1_0 r.2.f0.f0 C1_0 ∧ v = .int .i64 r.1 ∧ (g0, .cells #[.slice A1_0 r.2.f0.f0.length c1_0] T0) :: (C1_0 ++ L) = L') := by
  unfold nflog_Log_Put at hr
  refine callsTo_body (N := 52) Tryd.func12 (by kernel_rfl) (by kernel_rfl) (by kernel_rfl) ?_
  refine gk_pick [0, 1] (K' := [(0, .pointer (some ⟨g0, 0, none⟩)), (1, .agg #[.string a1.f0, .string a1.f1, .int .i64 a1.f2, .slice A1_3 a1.f3.length n1_3, .slice A1_4 a1.f4.length n1_4])]) (by kernel_rfl) ?_
  refine gk_seq (by kernel_rfl) ?_
  refine gk_region (by kernel_rfl) ?_
  refine gl_box (T' := 24) (x := (.tmp 1)) (v := .agg #[.string a1.f0, .string a1.f1, .int .i64 a1.f2, .slice A1_3 a1.f3.length n1_3, .slice A1_4 a1.f4.length n1_4]) (cs := #[.string a1.f0, .string a1.f1, .int .i64 a1.f2, .slice A1_3 a1.f3.length n1_3, .slice A1_4 a1.f4.length n1_4]) (by kernel_rfl) (by kernel_rfl) (by kernel_rfl) (by kernel_rfl) (fun g1 => ?_)
  refine gl_pure 1 [0, 3] (K' := [(0, .pointer (some ⟨g0, 0, none⟩)), (3, .pointer (some ⟨g1, 0, none⟩))]) (by kernel_rfl) ?_
  refine gl_atE (by kernel_rfl) ?_
  refine ge_seq ?_
  refine gk_seq (by kernel_rfl) ?_
  refine gk_seq (by kernel_rfl) ?_
  refine gk_region (by kernel_rfl) ?_
  refine gl_pure 2 [0, 3, 9] (K' := [(0, .pointer (some ⟨g0, 0, none⟩)), (3, .pointer (some ⟨g1, 0, none⟩)), (9, .bool false)]) (by kernel_rfl) ?_
  refine gl_atE (by kernel_rfl) ?_
  refine ge_seq ?_
  refine gk_cond (b := false) (by kernel_rfl) (by kernel_rfl) (fun h => by cases h) (fun _ => ?_)
  refine gk_skip (by kernel_rfl) ?_
  refine ge_seq ?_
  refine gk_seq (by kernel_rfl) ?_
  refine gk_seq (by kernel_rfl) ?_
  refine gk_region (by kernel_rfl) ?_
  refine gl_loadB (T' := 24) (xp := (.tmp 3)) (v := .agg #[.string a1.f0, .string a1.f1, .int .i64 a1.f2, .slice A1_3 a1.f3.length n1_3, .slice A1_4 a1.f4.length n1_4]) (g := g1) (off := 0) (cs := #[.string a1.f0, .string a1.f1, .int .i64 a1.f2, .slice A1_3 a1.f3.length n1_3, .slice A1_4 a1.f4.length n1_4]) (e := 24) (fz := (0, 0)) (by kernel_rfl) (by kernel_rfl) (by kernel_rfl) List.mem_cons_self (by kernel_rfl) ?_
  obtain ⟨y2, hx3, hr⟩ := bind_some hr
  refine gl_callQ (by kernel_rfl) (nflog_Right_walk (r := y2) hG hf1_3 hf1_4 hx3 _) ?_
  refine gl_pure 1 [0, 3, 5] (K' := [(0, .pointer (some ⟨g0, 0, none⟩)), (3, .pointer (some ⟨g1, 0, none⟩)), (5, .int .i64 y2)]) (by kernel_rfl) ?_
  refine gl_atE (by kernel_rfl) ?_
  refine ge_seq ?_
  refine gk_seq (by kernel_rfl) ?_
  refine gk_region (by kernel_rfl) ?_
  refine gl_pure 2 [0, 3, 5, 13] (K' := [(0, .pointer (some ⟨g0, 0, none⟩)), (3, .pointer (some ⟨g1, 0, none⟩)), (5, .int .i64 y2), (13, .bool (y2 != 0))]) (by kernel_rfl) ?_
  refine gl_atE (by kernel_rfl) ?_
  refine ge_seq ?_
  refine gk_cond (b := (y2 != 0)) (by kernel_rfl) (by kernel_rfl) (fun hc4 => ?_) (fun hc4 => ?_)
  · have hr := cond_t hc4 hr
    refine gk_seq (by kernel_rfl) ?_
    refine gk_region (by kernel_rfl) ?_
    refine gl_pure 2 [4] (K' := [(4, .int .i64 y2)]) (by kernel_rfl) ?_
    refine gl_atE (by kernel_rfl) ?_
    refine ge_seq ?_
    refine gk_reord (D := (g0, .cells #[.slice A0_0 a0.f0.f0.length c0_0] T0) :: (C0_0 ++ L)) (Reord.step1 (Upd.one _ (Upd.rm1 _ _)) (Reord.step (Upd.one _ (Upd.rmC _ _)) (Reord.skip (Reord.refl _)))) ?_
    refine gk_ret (by kernel_rfl) ?_
    refine ge_seq_ret ?_
    obtain rfl := some_inj hr
    exact ge_result trivial (ResOk.tmp (by kernel_rfl) ResOk.nil) (Imm.refl _) ⟨A0_0, c0_0, C0_0, hO0_0, rfl, rfl⟩
  · have hr := cond_f hc4 hr
    refine gk_skip (by kernel_rfl) ?_
    refine ge_seq ?_
    refine gk_seq (by kernel_rfl) ?_
    refine gk_region (by kernel_rfl) ?_
    refine gl_pure 2 [0, 3, 16, 17] (K' := [(0, .pointer (some ⟨g0, 0, none⟩)), (3, .pointer (some ⟨g1, 0, none⟩)), (16, .pointer (some ⟨g0, 0, none⟩)), (17, .pointer (some ⟨g1, 0, none⟩))]) (by kernel_rfl) ?_
    refine gl_loadB (T' := 9) (xp := (.tmp 17)) (v := .string a1.f0) (g := g1) (off := 0) (cs := #[.string a1.f0, .string a1.f1, .int .i64 a1.f2, .slice A1_3 a1.f3.length n1_3, .slice A1_4 a1.f4.length n1_4]) (e := 24) (fz := (0, 0)) (by kernel_rfl) (by kernel_rfl) (by kernel_rfl) List.mem_cons_self (by kernel_rfl) ?_
    refine gl_pure 1 [0, 3, 16, 18, 19] (K' := [(0, .pointer (some ⟨g0, 0, none⟩)), (3, .pointer (some ⟨g1, 0, none⟩)), (16, .pointer (some ⟨g0, 0, none⟩)), (18, .string a1.f0), (19, .pointer (some ⟨g1, 1, none⟩))]) (by kernel_rfl) ?_
    refine gl_loadB (T' := 9) (xp := (.tmp 19)) (v := .string a1.f1) (g := g1) (off := 1) (cs := #[.string a1.f0, .string a1.f1, .int .i64 a1.f2, .slice A1_3 a1.f3.length n1_3, .slice A1_4 a1.f4.length n1_4]) (e := 24) (fz := (0, 0)) (by kernel_rfl) (by kernel_rfl) (by kernel_rfl) List.mem_cons_self (by kernel_rfl) ?_
    obtain ⟨y5, hx6, hr⟩ := bind_some hr
    refine gl_reord (D := (g0, .cells #[.slice A0_0 a0.f0.f0.length c0_0] T0) :: (C0_0 ++ ((g1, .cells #[.string a1.f0, .string a1.f1, .int .i64 a1.f2, .slice A1_3 a1.f3.length n1_3, .slice A1_4 a1.f4.length n1_4] 24) :: L))) (Reord.step1 (Upd.one _ (Upd.rm1 _ _)) (Reord.step (Upd.one _ (Upd.rmC _ _)) (Reord.step1 (Upd.rm1 _ _) (Reord.refl _)))) ?_
    refine gl_call (by kernel_rfl) (nflog_Log_Find_walk (r := y5) (g0 := g0) (T0 := T0) (A0_0 := A0_0) (c0_0 := c0_0) (C0_0 := C0_0) (a0 := a0) hO0_0 hx6 _) ?_
    rintro v I7 L8 hI9 ⟨A10, c11, A12, c13, hf14, hf15, rfl, rfl⟩
    refine gl_pure 3 [0, 3, 22, 23] (K' := [(0, .pointer (some ⟨g0, 0, none⟩)), (3, .pointer (some ⟨g1, 0, none⟩)), (22, .agg #[.string y5.1.f0, .string y5.1.f1, .int .i64 y5.1.f2, .slice A10 y5.1.f3.length c11, .slice A12 y5.1.f4.length c13]), (23, .bool y5.2)]) (by kernel_rfl) ?_
    refine gl_alloc (T' := 24) (cs := #[.string (⟨#[]⟩ : ByteArray), .string (⟨#[]⟩ : ByteArray), .int .i64 0, .slice none 0 0, .slice none 0 0]) (by kernel_rfl) (by kernel_rfl) (by kernel_rfl) (fun g16 => ?_)
    refine gl_storeB (T' := 24) (xp := (.tmp 6)) (xv := (.tmp 22)) (v := .agg #[.string y5.1.f0, .string y5.1.f1, .int .i64 y5.1.f2, .slice A10 y5.1.f3.length c11, .slice A12 y5.1.f4.length c13]) (g := g16) (off := 0) (cs := #[.string (⟨#[]⟩ : ByteArray), .string (⟨#[]⟩ : ByteArray), .int .i64 0, .slice none 0 0, .slice none 0 0]) (cs' := #[.string y5.1.f0, .string y5.1.f1, .int .i64 y5.1.f2, .slice A10 y5.1.f3.length c11, .slice A12 y5.1.f4.length c13]) (by kernel_rfl) (by kernel_rfl) (by kernel_rfl) (by kernel_rfl) (by kernel_rfl) (Upd.set _ _ _ _) ?_ (by kernel_rfl)
    refine gl_pure 1 [0, 3, 6, 7] (K' := [(0, .pointer (some ⟨g0, 0, none⟩)), (3, .pointer (some ⟨g1, 0, none⟩)), (6, .pointer (some ⟨g16, 0, none⟩)), (7, .bool y5.2)]) (by kernel_rfl) ?_
    refine gl_atE (by kernel_rfl) ?_
    refine ge_seq ?_
    refine gk_seq (by kernel_rfl) ?_
    refine gk_block (by kernel_rfl) ?_
    refine gk_seq (by kernel_rfl) ?_
    obtain ⟨b19, hb20⟩ : ∃ z, z = (y5.2 && (decide (y5.1.f2 > a1.f2))) := ⟨_, rfl⟩
    refine gk_join (fun t I' L' => I7 ≤ I' ∧ (g16, .cells #[.string y5.1.f0, .string y5.1.f1, .int .i64 y5.1.f2, .slice A10 y5.1.f3.length c11, .slice A12 y5.1.f4.length c13] 24) :: ((g0, .cells #[.slice A0_0 a0.f0.f0.length c0_0] T0) :: (C0_0 ++ ((g1, .cells #[.string a1.f0, .string a1.f1, .int .i64 a1.f2, .slice A1_3 a1.f3.length n1_3, .slice A1_4 a1.f4.length n1_4] 24) :: L))) = L' ∧ Knows 52 [(0, .pointer (some ⟨g0, 0, none⟩)), (3, .pointer (some ⟨g1, 0, none⟩)), (7, .bool y5.2), (24, .bool b19)] t) ?_ ?_
    · refine gk_region (by kernel_rfl) ?_
      refine gl_pure 2 [0, 3, 6, 7, 26] (K' := [(0, .pointer (some ⟨g0, 0, none⟩)), (3, .pointer (some ⟨g1, 0, none⟩)), (6, .pointer (some ⟨g16, 0, none⟩)), (7, .bool y5.2), (26, .bool y5.2)]) (by kernel_rfl) ?_
      refine gl_case 26 (b := y5.2) (by kernel_rfl) (fun hc22 => ?_) (fun hc22 => ?_)
      · refine gl_pure 1 [0, 3, 7, 26, 27] (K' := [(0, .pointer (some ⟨g0, 0, none⟩)), (3, .pointer (some ⟨g1, 0, none⟩)), (7, .bool y5.2), (26, .bool true), (27, .pointer (some ⟨g16, 2, none⟩))]) (by kernel_rfl) ?_
        refine gl_loadB (T' := 2) (xp := (.tmp 27)) (v := .int .i64 y5.1.f2) (g := g16) (off := 2) (cs := #[.string y5.1.f0, .string y5.1.f1, .int .i64 y5.1.f2, .slice A10 y5.1.f3.length c11, .slice A12 y5.1.f4.length c13]) (e := 24) (fz := (0, 0)) (by kernel_rfl) (by kernel_rfl) (by kernel_rfl) List.mem_cons_self (by kernel_rfl) ?_
        refine gl_pure 1 [0, 3, 7, 26, 28, 29] (K' := [(0, .pointer (some ⟨g0, 0, none⟩)), (3, .pointer (some ⟨g1, 0, none⟩)), (7, .bool y5.2), (26, .bool true), (28, .int .i64 y5.1.f2), (29, .pointer (some ⟨g1, 2, none⟩))]) (by kernel_rfl) ?_
        refine gl_loadB (T' := 2) (xp := (.tmp 29)) (v := .int .i64 a1.f2) (g := g1) (off := 2) (cs := #[.string a1.f0, .string a1.f1, .int .i64 a1.f2, .slice A1_3 a1.f3.length n1_3, .slice A1_4 a1.f4.length n1_4]) (e := 24) (fz := (0, 0)) (by kernel_rfl) (by kernel_rfl) (by kernel_rfl) (List.mem_cons_of_mem _ (List.mem_cons_of_mem _ (List.mem_append_right _ List.mem_cons_self))) (by kernel_rfl) ?_
        refine gl_pure 3 [0, 3, 7, 24] (K' := [(0, .pointer (some ⟨g0, 0, none⟩)), (3, .pointer (some ⟨g1, 0, none⟩)), (7, .bool y5.2), (24, .bool (decide (y5.1.f2 > a1.f2)))]) (by kernel_rfl) ?_
        refine gl_atE (by kernel_rfl) ?_
        exact ge_mid fun t ht => ⟨(Imm.refl _), rfl, by rw [(show b19 = (decide (y5.1.f2 > a1.f2)) from hb20.trans (by rw [hc22]; try rfl))]; exact ht.pick (l := [0, 3, 7, 24]) (by kernel_rfl)⟩
      · refine gl_pure 7 [0, 3, 7, 24] (K' := [(0, .pointer (some ⟨g0, 0, none⟩)), (3, .pointer (some ⟨g1, 0, none⟩)), (7, .bool y5.2), (24, .bool false)]) (by kernel_rfl) ?_
        refine gl_atE (by kernel_rfl) ?_
        exact ge_mid fun t ht => ⟨(Imm.refl _), rfl, by rw [(show b19 = false from hb20.trans (by rw [hc22]; try rfl))]; exact ht.pick (l := [0, 3, 7, 24]) (by kernel_rfl)⟩
    · rintro t I21 L' ⟨hI17, rfl, hK18⟩
      subst hb20
      refine ge_at hK18 ?_
      refine ge_seq ?_
      refine gk_cond (b := (y5.2 && (decide (y5.1.f2 > a1.f2)))) (by kernel_rfl) (by kernel_rfl) (fun hc23 => ?_) (fun hc23 => ?_)
      · have hr := cond_t hc23 hr
        refine gk_seq (by kernel_rfl) ?_
        refine gk_region (by kernel_rfl) ?_
        refine gl_pure 1 [4] (K' := [(4, .int .i64 90)]) (by kernel_rfl) ?_
        refine gl_atE (by kernel_rfl) ?_
        refine ge_seq ?_
        refine gk_reord (D := (g0, .cells #[.slice A0_0 a0.f0.f0.length c0_0] T0) :: (C0_0 ++ L)) (Reord.step1 (Upd.one _ (Upd.rm1 _ _)) (Reord.step (Upd.one _ (Upd.rmC _ _)) (Reord.skip (Reord.skip (Reord.refl _))))) ?_
        refine gk_ret (by kernel_rfl) ?_
        refine ge_block_ret ?_
        refine ge_seq_ret ?_
        obtain rfl := some_inj hr
        exact ge_result trivial (ResOk.tmp (by kernel_rfl) ResOk.nil) (Imm.trans hI9 hI17) ⟨A0_0, c0_0, C0_0, (hO0_0.mono (Imm.trans hI9 hI17)), rfl, rfl⟩
      · have hr := cond_f hc23 hr
        refine gk_seq (by kernel_rfl) ?_
        obtain ⟨j24, hj25, hr⟩ := bind_some hr
        refine gk_join (fun t I' L' => I21 ≤ I' ∧ (g0, .cells #[.slice A0_0 a0.f0.f0.length c0_0] T0) :: (C0_0 ++ ((g1, .cells #[.string a1.f0, .string a1.f1, .int .i64 a1.f2, .slice A1_3 a1.f3.length n1_3, .slice A1_4 a1.f4.length n1_4] 24) :: L)) = L' ∧ Knows 52 [(0, .pointer (some ⟨g0, 0, none⟩)), (3, .pointer (some ⟨g1, 0, none⟩)), (33, .bool j24)] t) ?_ ?_
        · refine gk_region (by kernel_rfl) ?_
          refine gl_pure 3 [0, 3, 36] (K' := [(0, .pointer (some ⟨g0, 0, none⟩)), (3, .pointer (some ⟨g1, 0, none⟩)), (36, .bool (!y5.2))]) (by kernel_rfl) ?_
          refine gl_case 36 (b := (!y5.2)) (by kernel_rfl) (fun hc29 => ?_) (fun hc29 => ?_)
          · have hj25 := cond_t hc29 hj25
            refine gl_pure 1 [0, 3, 36, 37] (K' := [(0, .pointer (some ⟨g0, 0, none⟩)), (3, .pointer (some ⟨g1, 0, none⟩)), (36, .bool true), (37, .pointer (some ⟨g0, 0, none⟩))]) (by kernel_rfl) ?_
            refine gl_reord (D := (g0, .cells #[.slice A0_0 a0.f0.f0.length c0_0] T0) :: (C0_0 ++ ((g16, .cells #[.string y5.1.f0, .string y5.1.f1, .int .i64 y5.1.f2, .slice A10 y5.1.f3.length c11, .slice A12 y5.1.f4.length c13] 24) :: ((g1, .cells #[.string a1.f0, .string a1.f1, .int .i64 a1.f2, .slice A1_3 a1.f3.length n1_3, .slice A1_4 a1.f4.length n1_4] 24) :: L)))) (Reord.step1 (Upd.one _ (Upd.rm1 _ _)) (Reord.step (Upd.one _ (Upd.rmC _ _)) (Reord.step1 (Upd.rm1 _ _) (Reord.step1 (Upd.rm1 _ _) (Reord.refl _))))) ?_
            refine gl_call (by kernel_rfl) (nflog_Log_Len_walk (r := (nflog_Log_Len a0)) (g0 := g0) (T0 := T0) (A0_0 := A0_0) (c0_0 := c0_0) (C0_0 := C0_0) (a0 := a0) (hO0_0.mono (Imm.trans hI9 hI17)) rfl _) ?_
            rintro v I30 L31 hI32 ⟨rfl, rfl⟩
            refine gl_pure 3 [0, 3, 33] (K' := [(0, .pointer (some ⟨g0, 0, none⟩)), (3, .pointer (some ⟨g1, 0, none⟩)), (33, .bool (decide ((nflog_Log_Len a0) ≥ 500)))]) (by kernel_rfl) ?_
            refine gl_reord (D := (g0, .cells #[.slice A0_0 a0.f0.f0.length c0_0] T0) :: (C0_0 ++ ((g1, .cells #[.string a1.f0, .string a1.f1, .int .i64 a1.f2, .slice A1_3 a1.f3.length n1_3, .slice A1_4 a1.f4.length n1_4] 24) :: L))) (Reord.step1 (Upd.rm1 _ _) (Reord.step (Upd.rmC _ _) (Reord.step1 (Upd.one _ (Upd.rm1 _ _)) (Reord.skip (Reord.refl _))))) ?_
            refine gl_atE (by kernel_rfl) ?_
            obtain rfl := some_inj hj25
            exact ge_mid fun t ht => ⟨hI32, rfl, ht.pick (l := [0, 3, 33]) (by kernel_rfl)⟩
          · have hj25 := cond_f hc29 hj25
            refine gl_pure 5 [0, 3, 33] (K' := [(0, .pointer (some ⟨g0, 0, none⟩)), (3, .pointer (some ⟨g1, 0, none⟩)), (33, .bool false)]) (by kernel_rfl) ?_
            refine gl_reord (D := (g0, .cells #[.slice A0_0 a0.f0.f0.length c0_0] T0) :: (C0_0 ++ ((g1, .cells #[.string a1.f0, .string a1.f1, .int .i64 a1.f2, .slice A1_3 a1.f3.length n1_3, .slice A1_4 a1.f4.length n1_4] 24) :: L))) (Reord.step1 (Upd.one _ (Upd.rm1 _ _)) (Reord.step (Upd.one _ (Upd.rmC _ _)) (Reord.step1 (Upd.one _ (Upd.rm1 _ _)) (Reord.skip (Reord.refl _))))) ?_
            refine gl_atE (by kernel_rfl) ?_
            obtain rfl := some_inj hj25
            exact ge_mid fun t ht => ⟨(Imm.refl _), rfl, ht.pick (l := [0, 3, 33]) (by kernel_rfl)⟩
        · rintro t I28 L' ⟨hI26, rfl, hK27⟩
          refine ge_at hK27 ?_
          refine ge_seq ?_
          refine gk_cond (b := j24) (by kernel_rfl) (by kernel_rfl) (fun hc33 => ?_) (fun hc33 => ?_)
          · have hr := cond_t hc33 hr
            refine gk_seq (by kernel_rfl) ?_
            refine gk_region (by kernel_rfl) ?_
            refine gl_pure 1 [4] (K' := [(4, .int .i64 8)]) (by kernel_rfl) ?_
            refine gl_atE (by kernel_rfl) ?_
            refine ge_seq ?_
            refine gk_reord (D := (g0, .cells #[.slice A0_0 a0.f0.f0.length c0_0] T0) :: (C0_0 ++ L)) (Reord.step1 (Upd.rm1 _ _) (Reord.step (Upd.rmC _ _) (Reord.skip (Reord.refl _)))) ?_
            refine gk_ret (by kernel_rfl) ?_
            refine ge_block_ret ?_
            refine ge_seq_ret ?_
            obtain rfl := some_inj hr
            exact ge_result trivial (ResOk.tmp (by kernel_rfl) ResOk.nil) (Imm.trans (Imm.trans hI9 hI17) hI26) ⟨A0_0, c0_0, C0_0, (hO0_0.mono (Imm.trans (Imm.trans hI9 hI17) hI26)), rfl, rfl⟩
          · have hr := cond_f hc33 hr
            refine gk_skip (by kernel_rfl) ?_
            refine ge_block_normal ?_
            refine ge_seq ?_
            refine gk_seq (by kernel_rfl) ?_
            refine gk_draw 10 [(0, true), (1, true), (2, true), (3, true), (4, true), (5, true), (6, true), (7, true), (8, true), (9, false)] [(g0, .cells #[.slice A0_0 a0.f0.f0.length c0_0] T0), (g1, .cells #[.string a1.f0, .string a1.f1, .int .i64 a1.f2, .slice A1_3 a1.f3.length n1_3, .slice A1_4 a1.f4.length n1_4] 24)] (List.forall_mem_cons.2 ⟨List.mem_cons_self, (List.forall_mem_cons.2 ⟨(List.mem_cons_of_mem _ (List.mem_append_right _ List.mem_cons_self)), (fun p hp => by cases hp)⟩)⟩) (by kernel_rfl) (by kernel_rfl) (by kernel_rfl) ?_ (by kernel_rfl)
            refine gd_pure 4 [3, 43, 44] (K' := [(3, .pointer (some ⟨g1, 0, none⟩)), (43, .pointer (some ⟨g0, 0, none⟩)), (44, .pointer (some ⟨g1, 0, none⟩))]) (s' := [(4, true), (5, true), (6, true), (7, true), (8, true), (9, false)]) (CC.refl (List.forall_mem_cons.2 ⟨List.mem_cons_self, (List.forall_mem_cons.2 ⟨(List.mem_cons_of_mem _ (List.mem_append_right _ List.mem_cons_self)), (fun p hp => by cases hp)⟩)⟩)) (by kernel_rfl) ?_
            refine gd_q (v := .string a1.f0) (by kernel_rfl) (by kernel_rfl) (CC.refl (List.forall_mem_cons.2 ⟨List.mem_cons_self, (List.forall_mem_cons.2 ⟨(List.mem_cons_of_mem _ (List.mem_append_right _ List.mem_cons_self)), (fun p hp => by cases hp)⟩)⟩)) (fun I' L' T hC kk => gl_loadB (T' := 9) (xp := (.tmp 44)) (v := .string a1.f0) (g := g1) (off := 0) (cs := #[.string a1.f0, .string a1.f1, .int .i64 a1.f2, .slice A1_3 a1.f3.length n1_3, .slice A1_4 a1.f4.length n1_4]) (e := 24) (fz := (0, 0)) (by kernel_rfl) (by kernel_rfl) (by kernel_rfl) (hC.sub _ (List.mem_cons_of_mem _ List.mem_cons_self)) (by kernel_rfl) kk) ?_
            refine gd_pure 1 [3, 43, 45, 46] (K' := [(3, .pointer (some ⟨g1, 0, none⟩)), (43, .pointer (some ⟨g0, 0, none⟩)), (45, .string a1.f0), (46, .pointer (some ⟨g1, 1, none⟩))]) (s' := [(6, true), (7, true), (8, true), (9, false)]) (CC.refl (List.forall_mem_cons.2 ⟨List.mem_cons_self, (List.forall_mem_cons.2 ⟨(List.mem_cons_of_mem _ (List.mem_append_right _ List.mem_cons_self)), (fun p hp => by cases hp)⟩)⟩)) (by kernel_rfl) ?_
            refine gd_q (v := .string a1.f1) (by kernel_rfl) (by kernel_rfl) (CC.refl (List.forall_mem_cons.2 ⟨List.mem_cons_self, (List.forall_mem_cons.2 ⟨(List.mem_cons_of_mem _ (List.mem_append_right _ List.mem_cons_self)), (fun p hp => by cases hp)⟩)⟩)) (fun I' L' T hC kk => gl_loadB (T' := 9) (xp := (.tmp 46)) (v := .string a1.f1) (g := g1) (off := 1) (cs := #[.string a1.f0, .string a1.f1, .int .i64 a1.f2, .slice A1_3 a1.f3.length n1_3, .slice A1_4 a1.f4.length n1_4]) (e := 24) (fz := (0, 0)) (by kernel_rfl) (by kernel_rfl) (by kernel_rfl) (hC.sub _ (List.mem_cons_of_mem _ List.mem_cons_self)) (by kernel_rfl) kk) ?_
            refine gd_pure 1 [3, 43, 48] (K' := [(3, .pointer (some ⟨g1, 0, none⟩)), (43, .pointer (some ⟨g0, 0, none⟩)), (48, .agg #[.string a1.f0, .string a1.f1])]) (s' := [(8, true), (9, false)]) (CC.refl (List.forall_mem_cons.2 ⟨List.mem_cons_self, (List.forall_mem_cons.2 ⟨(List.mem_cons_of_mem _ (List.mem_append_right _ List.mem_cons_self)), (fun p hp => by cases hp)⟩)⟩)) (by kernel_rfl) ?_
            refine gd_q (v := .agg #[.string a1.f0, .string a1.f1, .int .i64 a1.f2, .slice A1_3 a1.f3.length n1_3, .slice A1_4 a1.f4.length n1_4]) (by kernel_rfl) (by kernel_rfl) (CC.refl (List.forall_mem_cons.2 ⟨List.mem_cons_self, (List.forall_mem_cons.2 ⟨(List.mem_cons_of_mem _ (List.mem_append_right _ List.mem_cons_self)), (fun p hp => by cases hp)⟩)⟩)) (fun I' L' T hC kk => gl_loadB (T' := 24) (xp := (.tmp 3)) (v := .agg #[.string a1.f0, .string a1.f1, .int .i64 a1.f2, .slice A1_3 a1.f3.length n1_3, .slice A1_4 a1.f4.length n1_4]) (g := g1) (off := 0) (cs := #[.string a1.f0, .string a1.f1, .int .i64 a1.f2, .slice A1_3 a1.f3.length n1_3, .slice A1_4 a1.f4.length n1_4]) (e := 24) (fz := (0, 0)) (by kernel_rfl) (by kernel_rfl) (by kernel_rfl) (hC.sub _ (List.mem_cons_of_mem _ List.mem_cons_self)) (by kernel_rfl) kk) ?_
            refine gd_one (by kernel_rfl) ?_
            obtain ⟨y34, hx35, hr⟩ := bind_some hr
            refine gl_call (by kernel_rfl) (nflog_own_walk (r := y34) (hf1_3.mono (Imm.trans (Imm.trans hI9 hI17) hI26)) (hf1_4.mono (Imm.trans (Imm.trans hI9 hI17) hI26)) hx35 _) ?_
            rintro v I36 L37 hI38 ⟨A39, c40, A41, c42, hf43, hf44, rfl, rfl⟩
            refine gl_toD (by kernel_rfl) ⟨hI38, (List.forall_mem_cons.2 ⟨List.mem_cons_self, (List.forall_mem_cons.2 ⟨(List.mem_cons_of_mem _ (List.mem_append_right _ List.mem_cons_self)), (fun p hp => by cases hp)⟩)⟩)⟩ ?_
            refine gd_done ?_
            obtain ⟨y45, hx46, hr⟩ := bind_some hr
            refine gl_call (by kernel_rfl) (nflog_list_put_walk (r := y45) (g0 := g0) (T0 := T0) (A0_0 := A0_0) (c0_0 := c0_0) (C0_0 := C0_0) (a0 := a0.f0) (hO0_0.mono (Imm.trans (Imm.trans (Imm.trans hI9 hI17) hI26) hI38)) hf43 hf44 hx46 _) ?_
            rintro v I47 L48 hI49 ⟨A50, c51, C52, hO53, rfl, rfl⟩
            refine gl_atE (by kernel_rfl) ?_
            refine ge_seq ?_
            refine gk_seq (by kernel_rfl) ?_
            refine gk_region (by kernel_rfl) ?_
            refine gl_pure 1 [4] (K' := [(4, .int .i64 0)]) (by kernel_rfl) ?_
            refine gl_atE (by kernel_rfl) ?_
            refine ge_seq ?_
            refine gk_reord (D := (g0, .cells #[.slice A50 y45.f0.length c51] T0) :: (C52 ++ L)) (Reord.step1 (Upd.rm1 _ _) (Reord.step (Upd.rmC _ _) (Reord.skip (Reord.refl _)))) ?_
            refine gk_ret (by kernel_rfl) ?_
            obtain rfl := some_inj hr
            exact ge_result trivial (ResOk.tmp (by kernel_rfl) ResOk.nil) (Imm.trans (Imm.trans (Imm.trans (Imm.trans hI9 hI17) hI26) hI38) hI49) ⟨A50, c51, C52, hO53, rfl, rfl⟩
structure Fn122 (I : Imm) (fv : Value) (f : (List S79) → Option Bool) : Prop where
  out : ∀ I', I ≤ I' → ∀ (x0 : List S79) (r : Bool), f x0 = some r → ∀ A0_0 c0_0, RepS kS79 I' A0_0 c0_0 x0 → ∀ L, CallsV Tryd.prog fv [.slice A0_0 x0.length c0_0] I' L (fun v I' L' => v = .bool r ∧ L = L')
theorem Fn122.mono {I J : Imm} {fv : Value} {f : (List S79) → Option Bool} (h : Fn122 I fv f) (hI : I ≤ J) : Fn122 J fv f := ⟨fun I' hI' => h.out I' (Imm.trans hI hI')⟩
/-! 108 slices_IndexFunc_f108  -/
noncomputable def slices_IndexFunc_f108_l17 (a0 : List (List S79)) (a1 : (List S79) → Option Bool) : Int → Option ((Int) ⊕ ((Unit) ⊕ (Int))) := fun s7 =>
  bif (decide (s7 < (a0.length : Int))) then
  (Option.bind (ix a0 s7) fun (x20 : List S79) =>
    Option.bind (a1 x20) fun (y32 : Bool) =>
    bif y32 then
    (some (Sum.inr (Sum.inr s7)))
    else
    (some (Sum.inl (IntKind.wrap .i64 (s7 + 1)))))
  else
  (some (Sum.inr (Sum.inl ())))
noncomputable def slices_IndexFunc_f108 (a0 : List (List S79)) (a1 : (List S79) → Option Bool) : Option Int :=
  Option.bind (loopO (slices_IndexFunc_f108_l17 a0 a1) 0) fun (r5 : (Unit) ⊕ (Int)) =>
  match r5 with
  | Sum.inl r13 => some (-1)
  | Sum.inr v34 => some v34
theorem slices_IndexFunc_f108_walk {a0 : List (List S79)} {A0_0 : Option Addr} {n0_0 : Nat} {a1 : (List S79) → Option Bool} {fv1 : Value} {I : Imm} {r : Int}  (hf0_0 : RepS (Kd.sl kS79) I A0_0 n0_0 a0) (hf1 : Fn122 I fv1 a1) (hr : slices_IndexFunc_f108 a0 a1 = some r) (L : Own) :
    CallsTo Tryd.prog 108 #[.slice A0_0 a0.length n0_0, fv1] I L (fun v I' L' => v = .int .i64 r ∧ L = L') := by
  unfold slices_IndexFunc_f108 at hr
  refine callsTo_body (N := 19) Tryd.func108 (by kernel_rfl) (by kernel_rfl) (by kernel_rfl) ?_
  refine gk_pick [0, 1] (K' := [(0, .slice A0_0 a0.length n0_0), (1, fv1)]) (by kernel_rfl) ?_
  refine gk_seq (by kernel_rfl) ?_
  refine gk_region (by kernel_rfl) ?_
  refine gl_pure 1 [0, 1] (K' := [(0, .slice A0_0 a0.length n0_0), (1, fv1)]) (by kernel_rfl) ?_
  refine gl_atE (by kernel_rfl) ?_
  refine ge_seq ?_
  refine gk_seq (by kernel_rfl) ?_
  refine gk_seq (by kernel_rfl) ?_
  refine gk_region (by kernel_rfl) ?_
  refine gl_pure 3 [0, 1, 7, 8] (K' := [(0, .slice A0_0 a0.length n0_0), (1, fv1), (7, .int .i64 (a0.length : Int)), (8, .int .i64 0)]) (by kernel_rfl) ?_
  refine gl_atE (by kernel_rfl) ?_
  refine ge_seq ?_
  obtain ⟨r5, hl6, hr⟩ := bind_some hr
  refine gk_join (fun t I' L' => ∃ r13, r5 = Sum.inl r13 ∧ I ≤ I' ∧ L = L' ∧ Knows 19 [] t) ?_ ?_
  · refine gk_block (by kernel_rfl) ?_
    refine gk_pick [0, 1, 7, 8] (K' := [(0, .slice A0_0 a0.length n0_0), (1, fv1), (7, .int .i64 (a0.length : Int)), (8, .int .i64 0)]) (by kernel_rfl) ?_
    intro t hK
    refine gc_loop (slices_IndexFunc_f108_l17 a0 a1) (fun s7 t I' L' => I ≤ I' ∧ L = L' ∧ Knows 19 [(0, .slice A0_0 a0.length n0_0), (1, fv1), (7, .int .i64 (a0.length : Int)), (8, .int .i64 s7)] t) (by kernel_rfl) ?_ hl6 ⟨(Imm.refl _), rfl, hK⟩
    rintro s7 o8 t I12 L' hb9 ⟨hI10, rfl, hK11⟩
    unfold slices_IndexFunc_f108_l17 at hb9
    refine gk_at hK11 ?_
    refine gk_seq (by kernel_rfl) ?_
    refine gk_region (by kernel_rfl) ?_
    refine gl_pure 1 [0, 1, 7, 8, 9] (K' := [(0, .slice A0_0 a0.length n0_0), (1, fv1), (7, .int .i64 (a0.length : Int)), (8, .int .i64 s7), (9, .bool (decide (s7 < (a0.length : Int))))]) (by kernel_rfl) ?_
    refine gl_atE (by kernel_rfl) ?_
    refine ge_seq ?_
    refine gk_seq (by kernel_rfl) ?_
    refine gk_cond (b := (decide (s7 < (a0.length : Int)))) (by kernel_rfl) (by kernel_rfl) (fun hc19 => ?_) (fun hc19 => ?_)
    · have hb9 := cond_t hc19 hb9
      refine gk_skip (by kernel_rfl) ?_
      refine ge_seq ?_
      refine gk_seq (by kernel_rfl) ?_
      refine gk_block (by kernel_rfl) ?_
      refine gk_seq (by kernel_rfl) ?_
      refine gk_region (by kernel_rfl) ?_
      refine gl_pure 2 [0, 1, 5, 7, 8] (K' := [(0, .slice A0_0 a0.length n0_0), (1, fv1), (5, .int .i64 s7), (7, .int .i64 (a0.length : Int)), (8, .int .i64 s7)]) (by kernel_rfl) ?_
      refine gl_atE (by kernel_rfl) ?_
      refine ge_seq ?_
      refine gk_seq (by kernel_rfl) ?_
      refine gk_region (by kernel_rfl) ?_
      refine gl_pure 3 [0, 1, 5, 7, 8, 11, 12, 13] (K' := [(0, .slice A0_0 a0.length n0_0), (1, fv1), (5, .int .i64 s7), (7, .int .i64 (a0.length : Int)), (8, .int .i64 s7), (11, fv1), (12, .slice A0_0 a0.length n0_0), (13, .int .i64 s7)]) (by kernel_rfl) ?_
      obtain ⟨x20, hx21, hb9⟩ := bind_some hb9
      obtain ⟨p22, cs23, hR24, hA25, ha26⟩ := RepS.ixAt hx21 (hf0_0.mono hI10)
      have hi27 := ix_some hx21
      obtain ⟨A28, n29, rfl, hf30⟩ := sl_open hR24
      refine gl_indexAddrF (c := n0_0) (T' := 22) (e := 36) (xs := (.tmp 12)) (xi := (.tmp 13)) (kd := .i64) ha26 hi27.1 hi27.2.1 (by kernel_rfl) (by kernel_rfl) (by kernel_rfl) (by kernel_rfl) (by kernel_rfl) ?_
      refine gl_load (T' := 36) (xp := (.tmp 14)) (p := p22) (c := .slice A28 x20.length n29) (n := 1) (by kernel_rfl) (by kernel_rfl) (by kernel_rfl) (by kernel_rfl) hA25 ?_
      obtain ⟨y32, hx31, hb9⟩ := bind_some hb9
      refine gl_callvQ (by kernel_rfl) ((hf1.mono hI10).out _ (Imm.refl _) _ _ hx31 _ _ hf30 _) ?_
      refine gl_atE (by kernel_rfl) ?_
      refine ge_seq ?_
      refine gk_cond (b := y32) (by kernel_rfl) (by kernel_rfl) (fun hc33 => ?_) (fun hc33 => ?_)
      · have hb9 := cond_t hc33 hb9
        refine gk_seq (by kernel_rfl) ?_
        refine gk_region (by kernel_rfl) ?_
        refine gl_pure 2 [4] (K' := [(4, .int .i64 s7)]) (by kernel_rfl) ?_
        refine gl_atE (by kernel_rfl) ?_
        refine ge_seq ?_
        refine gk_ret (by kernel_rfl) ?_
        refine ge_block_ret ?_
        refine ge_seq_ret ?_
        obtain rfl := some_inj hb9
        refine ge_round_out (fun hrr => ?_) (by intro h; cases h)
        obtain rfl := hrr
        refine ge_block_ret ?_
        refine ge_seq_ret ?_
        refine ge_seq_ret ?_
        obtain rfl := some_inj hr
        exact ge_result trivial (ResOk.tmp (by kernel_rfl) ResOk.nil) hI10 ⟨rfl, rfl⟩
      · have hb9 := cond_f hc33 hb9
        refine gk_skip (by kernel_rfl) ?_
        refine ge_block_normal ?_
        refine ge_seq ?_
        refine gk_region (by kernel_rfl) ?_
        refine gl_pure 2 [0, 1, 7, 8] (K' := [(0, .slice A0_0 a0.length n0_0), (1, fv1), (7, .int .i64 (a0.length : Int)), (8, .int .i64 (IntKind.wrap .i64 (s7 + 1)))]) (by kernel_rfl) ?_
        refine gl_atE (by kernel_rfl) ?_
        obtain rfl := some_inj hb9
        exact ge_round fun t ht => ⟨hI10, rfl, ht.pick (l := [0, 1, 7, 8]) (by kernel_rfl)⟩
    · have hb9 := cond_f hc19 hb9
      refine gk_exit (by kernel_rfl) ?_
      refine ge_seq_exit ?_
      obtain rfl := some_inj hb9
      refine ge_round_out (fun hrr => ?_) (by intro h; cases h)
      obtain rfl := hrr
      refine ge_block_hit (by kernel_rfl) ?_
      exact ge_mid fun t ht => ⟨_, rfl, hI10, rfl, ht.pick (l := []) (by kernel_rfl)⟩
  · rintro t I16 L' ⟨r13, rfl, hI14, rfl, hK15⟩
    refine ge_at hK15 ?_
    refine ge_seq ?_
    refine gk_seq (by kernel_rfl) ?_
    refine gk_region (by kernel_rfl) ?_
    refine gl_pure 1 [4] (K' := [(4, .int .i64 (-1))]) (by kernel_rfl) ?_
    refine gl_atE (by kernel_rfl) ?_
    refine ge_seq ?_
    refine gk_ret (by kernel_rfl) ?_
    obtain rfl := some_inj hr
    exact ge_result trivial (ResOk.tmp (by kernel_rfl) ResOk.nil) hI14 ⟨rfl, rfl⟩
/-! 74 slices_ContainsFunc  -/
noncomputable def slices_ContainsFunc (a0 : List (List S79)) (a1 : (List S79) → Option Bool) : Option Bool :=
  Option.bind (slices_IndexFunc_f108 a0 a1) fun (y1 : Int) =>
  some (decide (y1 ≥ 0))
theorem slices_ContainsFunc_walk {a0 : List (List S79)} {A0_0 : Option Addr} {n0_0 : Nat} {a1 : (List S79) → Option Bool} {fv1 : Value} {I : Imm} {r : Bool}  (hf0_0 : RepS (Kd.sl kS79) I A0_0 n0_0 a0) (hf1 : Fn122 I fv1 a1) (hr : slices_ContainsFunc a0 a1 = some r) (L : Own) :
    CallsTo Tryd.prog 74 #[.slice A0_0 a0.length n0_0, fv1] I L (fun v I' L' => v = .bool r ∧ L = L') := by
  unfold slices_ContainsFunc at hr
  refine callsTo_body (N := 9) Tryd.func74 (by kernel_rfl) (by kernel_rfl) (by kernel_rfl) ?_
  refine gk_pick [0, 1] (K' := [(0, .slice A0_0 a0.length n0_0), (1, fv1)]) (by kernel_rfl) ?_
  refine gk_seq (by kernel_rfl) ?_
  refine gk_region (by kernel_rfl) ?_
  refine gl_pure 1 [0, 1] (K' := [(0, .slice A0_0 a0.length n0_0), (1, fv1)]) (by kernel_rfl) ?_
  refine gl_atE (by kernel_rfl) ?_
  refine ge_seq ?_
  refine gk_seq (by kernel_rfl) ?_
  refine gk_region (by kernel_rfl) ?_
  refine gl_pure 2 [5, 6] (K' := [(5, .slice A0_0 a0.length n0_0), (6, fv1)]) (by kernel_rfl) ?_
  obtain ⟨y1, hx2, hr⟩ := bind_some hr
  refine gl_callQ (by kernel_rfl) (slices_IndexFunc_f108_walk (r := y1) hf0_0 hf1 hx2 _) ?_
  refine gl_pure 2 [4] (K' := [(4, .bool (decide (y1 ≥ 0)))]) (by kernel_rfl) ?_
  refine gl_atE (by kernel_rfl) ?_
  refine ge_seq ?_
  refine gk_ret (by kernel_rfl) ?_
  obtain rfl := some_inj hr
  exact ge_result trivial (ResOk.tmp (by kernel_rfl) ResOk.nil) (Imm.refl _) ⟨rfl, rfl⟩
/-! 105 nflog_right_1  -/
noncomputable def nflog_right_1 (a0 : List S79) : Option Bool :=
  Option.bind (labels_Right a0) fun (y1 : Int × Int) =>
  some (y1.1 != 0)
theorem nflog_right_1_walk {a0 : List S79} {A0_0 : Option Addr} {n0_0 : Nat} {I : Imm} {r : Bool} (hG : Gl I)  (hf0_0 : RepS kS79 I A0_0 n0_0 a0) (hr : nflog_right_1 a0 = some r) (L : Own) :
    CallsTo Tryd.prog 105 #[.slice A0_0 a0.length n0_0] I L (fun v I' L' => v = .bool r ∧ L = L') := by
  unfold nflog_right_1 at hr
  refine callsTo_body (N := 12) Tryd.func105 (by kernel_rfl) (by kernel_rfl) (by kernel_rfl) ?_
  refine gk_pick [0] (K' := [(0, .slice A0_0 a0.length n0_0)]) (by kernel_rfl) ?_
  refine gk_seq (by kernel_rfl) ?_
  refine gk_region (by kernel_rfl) ?_
  refine gl_pure 1 [0] (K' := [(0, .slice A0_0 a0.length n0_0)]) (by kernel_rfl) ?_
  refine gl_atE (by kernel_rfl) ?_
  refine ge_seq ?_
  refine gk_seq (by kernel_rfl) ?_
  refine gk_region (by kernel_rfl) ?_
  refine gl_pure 1 [6] (K' := [(6, .slice A0_0 a0.length n0_0)]) (by kernel_rfl) ?_
  obtain ⟨y1, hx2, hr⟩ := bind_some hr
  refine gl_callQ (by kernel_rfl) (labels_Right_walk (r := y1) hG hf0_0 hx2 _) ?_
  refine gl_pure 5 [3] (K' := [(3, .int .i64 y1.1)]) (by kernel_rfl) ?_
  refine gl_atE (by kernel_rfl) ?_
  refine ge_seq ?_
  refine gk_seq (by kernel_rfl) ?_
  refine gk_region (by kernel_rfl) ?_
  refine gl_pure 3 [2] (K' := [(2, .bool (y1.1 != 0))]) (by kernel_rfl) ?_
  refine gl_atE (by kernel_rfl) ?_
  refine ge_seq ?_
  refine gk_ret (by kernel_rfl) ?_
  obtain rfl := some_inj hr
  exact ge_result trivial (ResOk.tmp (by kernel_rfl) ResOk.nil) (Imm.refl _) ⟨rfl, rfl⟩
theorem nflog_right_1_impl122  {I : Imm} (hG : Gl I)  : Fn122 I (.func (.func 105) #[] #[]) nflog_right_1 := ⟨fun I' hI x0 r hr A0_0 c0_0 h0_0 L => ⟨105, #[], #[], rfl, ⟨_, Tryd.func105, by kernel_rfl, by kernel_rfl⟩, by
  simp only [List.append_toArray, List.nil_append, List.append_nil, Array.append_empty, Array.empty_append, List.push_append_toArray, List.cons_append]
  exact nflog_right_1_walk (hG.mono hI) h0_0  hr L⟩⟩
/-! 67 nflog_right  -/
noncomputable def nflog_right (a0 : List (List S79)) : Option Bool :=
  Option.bind (slices_ContainsFunc a0 nflog_right_1) fun (y1 : Bool) =>
  some (!y1)
theorem nflog_right_walk {a0 : List (List S79)} {A0_0 : Option Addr} {n0_0 : Nat} {I : Imm} {r : Bool} (hG : Gl I)  (hf0_0 : RepS (Kd.sl kS79) I A0_0 n0_0 a0) (hr : nflog_right a0 = some r) (L : Own) :
    CallsTo Tryd.prog 67 #[.slice A0_0 a0.length n0_0] I L (fun v I' L' => v = .bool r ∧ L = L') := by
  unfold nflog_right at hr
  refine callsTo_body (N := 6) Tryd.func67 (by kernel_rfl) (by kernel_rfl) (by kernel_rfl) ?_
  refine gk_pick [0] (K' := [(0, .slice A0_0 a0.length n0_0)]) (by kernel_rfl) ?_
  refine gk_seq (by kernel_rfl) ?_
  refine gk_region (by kernel_rfl) ?_
  refine gl_pure 1 [0] (K' := [(0, .slice A0_0 a0.length n0_0)]) (by kernel_rfl) ?_
  refine gl_atE (by kernel_rfl) ?_
  refine ge_seq ?_
  refine gk_seq (by kernel_rfl) ?_
  refine gk_region (by kernel_rfl) ?_
  refine gl_pure 1 [3] (K' := [(3, .slice A0_0 a0.length n0_0)]) (by kernel_rfl) ?_
  obtain ⟨y1, hx2, hr⟩ := bind_some hr
  refine gl_callQ (by kernel_rfl) (slices_ContainsFunc_walk (r := y1) hf0_0 (nflog_right_1_impl122 hG) hx2 _) ?_
  refine gl_pure 2 [2] (K' := [(2, .bool (!y1))]) (by kernel_rfl) ?_
  refine gl_atE (by kernel_rfl) ?_
  refine ge_seq ?_
  refine gk_ret (by kernel_rfl) ?_
  obtain rfl := some_inj hr
  exact ge_result trivial (ResOk.tmp (by kernel_rfl) ResOk.nil) (Imm.refl _) ⟨rfl, rfl⟩
/-! 75 nflog_Within_1 ('imm', ('ptrR', 36)) -/
noncomputable def nflog_Within_1 (a0 : List S79) (a1 : List S79) : Option Bool :=
  Option.bind (labels_Compare a1 a0) fun (y1 : Int) =>
  some (y1 == 0)
theorem nflog_Within_1_walk {a0 : List S79} {A0_0 : Option Addr} {n0_0 : Nat} {a1 : List S79} {p1 : Addr} {A1_0 : Option Addr} {n1_0 : Nat} {I : Imm} {r : Bool}  (hf0_0 : RepS kS79 I A0_0 n0_0 a0) (hp1 : RunAt I p1 [.slice A1_0 a1.length n1_0]) (hf1_0 : RepS kS79 I A1_0 n1_0 a1) (hr : nflog_Within_1 a0 a1 = some r) (L : Own) :
    CallsTo Tryd.prog 75 #[.slice A0_0 a0.length n0_0, .pointer (some p1)] I L (fun v I' L' => v = .bool r ∧ L = L') := by
  unfold nflog_Within_1 at hr
  refine callsTo_body (N := 8) Tryd.func75 (by kernel_rfl) (by kernel_rfl) (by kernel_rfl) ?_
  refine gk_pick [0, 1] (K' := [(0, .slice A0_0 a0.length n0_0), (1, .pointer (some p1))]) (by kernel_rfl) ?_
  refine gk_seq (by kernel_rfl) ?_
  refine gk_region (by kernel_rfl) ?_
  refine gl_pure 1 [0, 1] (K' := [(0, .slice A0_0 a0.length n0_0), (1, .pointer (some p1))]) (by kernel_rfl) ?_
  refine gl_atE (by kernel_rfl) ?_
  refine ge_seq ?_
  refine gk_seq (by kernel_rfl) ?_
  refine gk_region (by kernel_rfl) ?_
  refine gl_load (T' := 36) (xp := (.tmp 1)) (p := p1) (c := .slice A1_0 a1.length n1_0) (n := 1) (by kernel_rfl) (by kernel_rfl) (by kernel_rfl) (by kernel_rfl) hp1 ?_
  refine gl_pure 1 [4, 5] (K' := [(4, .slice A1_0 a1.length n1_0), (5, .slice A0_0 a0.length n0_0)]) (by kernel_rfl) ?_
  obtain ⟨y1, hx2, hr⟩ := bind_some hr
  refine gl_callQ (by kernel_rfl) (labels_Compare_walk (r := y1) hf1_0 hf0_0 hx2 _) ?_
  refine gl_pure 2 [3] (K' := [(3, .bool (y1 == 0))]) (by kernel_rfl) ?_
  refine gl_atE (by kernel_rfl) ?_
  refine ge_seq ?_
  refine gk_ret (by kernel_rfl) ?_
  obtain rfl := some_inj hr
  exact ge_result trivial (ResOk.tmp (by kernel_rfl) ResOk.nil) (Imm.refl _) ⟨rfl, rfl⟩
theorem nflog_Within_1_impl122 {a1 : List S79} {p1 : Addr} {A1_0 : Option Addr} {n1_0 : Nat} {I : Imm} (hp1 : RunAt I p1 [.slice A1_0 a1.length n1_0]) (hf1_0 : RepS kS79 I A1_0 n1_0 a1) : Fn122 I (.func (.func 75) #[] #[.pointer (some p1)]) (fun x0 => nflog_Within_1 x0 a1) := ⟨fun I' hI x0 r hr A0_0 c0_0 h0_0 L => ⟨75, #[], #[.pointer (some p1)], rfl, ⟨_, Tryd.func75, by kernel_rfl, by kernel_rfl⟩, by
  simp only [List.append_toArray, List.nil_append, List.append_nil, Array.append_empty, Array.empty_append, List.push_append_toArray, List.cons_append]
  exact nflog_Within_1_walk  h0_0 (hp1.mono hI) (hf1_0.mono hI) hr L⟩⟩
/-! 34 nflog_Within  -/
noncomputable def nflog_Within_l17 (a0 : List (List S79)) (a1 : List (List S79)) : Int → Option ((Int) ⊕ ((Unit) ⊕ (Bool))) := fun s7 =>
  bif (decide (s7 < (a0.length : Int))) then
  (Option.bind (ix a0 s7) fun (x20 : List S79) =>
    Option.bind (slices_ContainsFunc a1 (fun x0 => nflog_Within_1 x0 x20)) fun (y32 : Bool) =>
    bif (!y32) then
    (some (Sum.inr (Sum.inr false)))
    else
    (some (Sum.inl (IntKind.wrap .i64 (s7 + 1)))))
  else
  (some (Sum.inr (Sum.inl ())))
noncomputable def nflog_Within (a0 : List (List S79)) (a1 : List (List S79)) : Option Bool :=
  Option.bind (loopO (nflog_Within_l17 a0 a1) 0) fun (r5 : (Unit) ⊕ (Bool)) =>
  match r5 with
  | Sum.inl r13 => some true
  | Sum.inr v35 => some v35
theorem nflog_Within_walk {a0 : List (List S79)} {A0_0 : Option Addr} {n0_0 : Nat} {a1 : List (List S79)} {A1_0 : Option Addr} {n1_0 : Nat} {I : Imm} {r : Bool}  (hf0_0 : RepS (Kd.sl kS79) I A0_0 n0_0 a0)  (hf1_0 : RepS (Kd.sl kS79) I A1_0 n1_0 a1) (hr : nflog_Within a0 a1 = some r) (L : Own) :
    CallsTo Tryd.prog 34 #[.slice A0_0 a0.length n0_0, .slice A1_0 a1.length n1_0] I L (fun v I' L' => v = .bool r ∧ L = L') := by
  unfold nflog_Within at hr
  refine callsTo_body (N := 18) Tryd.func34 (by kernel_rfl) (by kernel_rfl) (by kernel_rfl) ?_
  refine gk_pick [0, 1] (K' := [(0, .slice A0_0 a0.length n0_0), (1, .slice A1_0 a1.length n1_0)]) (by kernel_rfl) ?_
  refine gk_seq (by kernel_rfl) ?_
  refine gk_region (by kernel_rfl) ?_
  refine gl_pure 1 [0, 1] (K' := [(0, .slice A0_0 a0.length n0_0), (1, .slice A1_0 a1.length n1_0)]) (by kernel_rfl) ?_
  refine gl_atE (by kernel_rfl) ?_
  refine ge_seq ?_
  refine gk_seq (by kernel_rfl) ?_
  refine gk_seq (by kernel_rfl) ?_
  refine gk_region (by kernel_rfl) ?_
  refine gl_pure 3 [1, 7, 8, 9] (K' := [(1, .slice A1_0 a1.length n1_0), (7, .slice A0_0 a0.length n0_0), (8, .int .i64 (a0.length : Int)), (9, .int .i64 0)]) (by kernel_rfl) ?_
  refine gl_atE (by kernel_rfl) ?_
  refine ge_seq ?_
  obtain ⟨r5, hl6, hr⟩ := bind_some hr
  refine gk_join (fun t I' L' => ∃ r13, r5 = Sum.inl r13 ∧ I ≤ I' ∧ L = L' ∧ Knows 18 [] t) ?_ ?_
  · refine gk_block (by kernel_rfl) ?_
    refine gk_pick [1, 7, 8, 9] (K' := [(1, .slice A1_0 a1.length n1_0), (7, .slice A0_0 a0.length n0_0), (8, .int .i64 (a0.length : Int)), (9, .int .i64 0)]) (by kernel_rfl) ?_
    intro t hK
    refine gc_loop (nflog_Within_l17 a0 a1) (fun s7 t I' L' => I ≤ I' ∧ L = L' ∧ Knows 18 [(1, .slice A1_0 a1.length n1_0), (7, .slice A0_0 a0.length n0_0), (8, .int .i64 (a0.length : Int)), (9, .int .i64 s7)] t) (by kernel_rfl) ?_ hl6 ⟨(Imm.refl _), rfl, hK⟩
    rintro s7 o8 t I12 L' hb9 ⟨hI10, rfl, hK11⟩
    unfold nflog_Within_l17 at hb9
    refine gk_at hK11 ?_
    refine gk_seq (by kernel_rfl) ?_
    refine gk_region (by kernel_rfl) ?_
    refine gl_pure 1 [1, 7, 8, 9, 10] (K' := [(1, .slice A1_0 a1.length n1_0), (7, .slice A0_0 a0.length n0_0), (8, .int .i64 (a0.length : Int)), (9, .int .i64 s7), (10, .bool (decide (s7 < (a0.length : Int))))]) (by kernel_rfl) ?_
    refine gl_atE (by kernel_rfl) ?_
    refine ge_seq ?_
    refine gk_seq (by kernel_rfl) ?_
    refine gk_cond (b := (decide (s7 < (a0.length : Int)))) (by kernel_rfl) (by kernel_rfl) (fun hc19 => ?_) (fun hc19 => ?_)
    · have hb9 := cond_t hc19 hb9
      refine gk_skip (by kernel_rfl) ?_
      refine ge_seq ?_
      refine gk_seq (by kernel_rfl) ?_
      refine gk_block (by kernel_rfl) ?_
      refine gk_seq (by kernel_rfl) ?_
      refine gk_region (by kernel_rfl) ?_
      obtain ⟨x20, hx21, hb9⟩ := bind_some hb9
      obtain ⟨p22, cs23, hR24, hA25, ha26⟩ := RepS.ixAt hx21 (hf0_0.mono hI10)
      have hi27 := ix_some hx21
      obtain ⟨A28, n29, rfl, hf30⟩ := sl_open hR24
      refine gl_indexAddrF (c := n0_0) (T' := 22) (e := 36) (xs := (.tmp 7)) (xi := (.tmp 9)) (kd := .i64) ha26 hi27.1 hi27.2.1 (by kernel_rfl) (by kernel_rfl) (by kernel_rfl) (by kernel_rfl) (by kernel_rfl) ?_
      refine gl_load (T' := 36) (xp := (.tmp 11)) (p := p22) (c := .slice A28 x20.length n29) (n := 1) (by kernel_rfl) (by kernel_rfl) (by kernel_rfl) (by kernel_rfl) hA25 ?_
      refine gl_alloc (T' := 36) (cs := #[.slice none 0 0]) (by kernel_rfl) (by kernel_rfl) (by kernel_rfl) (fun g31 => ?_)
      refine gl_storeB (T' := 36) (xp := (.tmp 6)) (xv := (.tmp 12)) (v := .slice A28 x20.length n29) (g := g31) (off := 0) (cs := #[.slice none 0 0]) (cs' := #[.slice A28 x20.length n29]) (by kernel_rfl) (by kernel_rfl) (by kernel_rfl) (by kernel_rfl) (by kernel_rfl) (Upd.set _ _ _ _) ?_ (by kernel_rfl)
      refine gl_atE (by kernel_rfl) ?_
      refine ge_seq ?_
      refine gk_seq (by kernel_rfl) ?_
      refine gk_region (by kernel_rfl) ?_
      refine gl_pure 2 [1, 7, 8, 9, 13, 14] (K' := [(1, .slice A1_0 a1.length n1_0), (7, .slice A0_0 a0.length n0_0), (8, .int .i64 (a0.length : Int)), (9, .int .i64 s7), (13, .slice A1_0 a1.length n1_0), (14, .func (.func 75) #[] #[.pointer (some ⟨g31, 0, none⟩)])]) (by kernel_rfl) ?_
      obtain ⟨y32, hx33, hb9⟩ := bind_some hb9
      refine gl_callB (r := .bool y32) (Tk.step (Upd.rm1 _ _) (Tk.nil _)) (by kernel_rfl) (fun J hJ hC => slices_ContainsFunc_walk (r := y32) (hf1_0.mono (Imm.trans hI10 hJ)) (nflog_Within_1_impl122 hC.left.blk (hf30.mono hJ)) hx33 _) ?_
      refine gl_pure 1 [1, 7, 8, 9, 16] (K' := [(1, .slice A1_0 a1.length n1_0), (7, .slice A0_0 a0.length n0_0), (8, .int .i64 (a0.length : Int)), (9, .int .i64 s7), (16, .bool (!y32))]) (by kernel_rfl) ?_
      refine gl_atE (by kernel_rfl) ?_
      refine ge_seq ?_
      refine gk_cond (b := (!y32)) (by kernel_rfl) (by kernel_rfl) (fun hc34 => ?_) (fun hc34 => ?_)
      · have hb9 := cond_t hc34 hb9
        refine gk_seq (by kernel_rfl) ?_
        refine gk_region (by kernel_rfl) ?_
        refine gl_pure 1 [4] (K' := [(4, .bool false)]) (by kernel_rfl) ?_
        refine gl_atE (by kernel_rfl) ?_
        refine ge_seq ?_
        refine gk_reord (D := L) (Reord.skip (Reord.refl _)) ?_
        refine gk_ret (by kernel_rfl) ?_
        refine ge_block_ret ?_
        refine ge_seq_ret ?_
        obtain rfl := some_inj hb9
        refine ge_round_out (fun hrr => ?_) (by intro h; cases h)
        obtain rfl := hrr
        refine ge_block_ret ?_
        refine ge_seq_ret ?_
        refine ge_seq_ret ?_
        obtain rfl := some_inj hr
        exact ge_result trivial (ResOk.tmp (by kernel_rfl) ResOk.nil) hI10 ⟨rfl, rfl⟩
      · have hb9 := cond_f hc34 hb9
        refine gk_skip (by kernel_rfl) ?_
        refine ge_block_normal ?_
        refine ge_seq ?_
        refine gk_region (by kernel_rfl) ?_
        refine gl_pure 2 [1, 7, 8, 9] (K' := [(1, .slice A1_0 a1.length n1_0), (7, .slice A0_0 a0.length n0_0), (8, .int .i64 (a0.length : Int)), (9, .int .i64 (IntKind.wrap .i64 (s7 + 1)))]) (by kernel_rfl) ?_
        refine gl_reord (D := L) (Reord.skip (Reord.refl _)) ?_
        refine gl_atE (by kernel_rfl) ?_
        obtain rfl := some_inj hb9
        exact ge_round fun t ht => ⟨hI10, rfl, ht.pick (l := [1, 7, 8, 9]) (by kernel_rfl)⟩
    · have hb9 := cond_f hc19 hb9
      refine gk_exit (by kernel_rfl) ?_
      refine ge_seq_exit ?_
      obtain rfl := some_inj hb9
      refine ge_round_out (fun hrr => ?_) (by intro h; cases h)
      obtain rfl := hrr
      refine ge_block_hit (by kernel_rfl) ?_
      exact ge_mid fun t ht => ⟨_, rfl, hI10, rfl, ht.pick (l := []) (by kernel_rfl)⟩
  · rintro t I16 L' ⟨r13, rfl, hI14, rfl, hK15⟩
    refine ge_at hK15 ?_
    refine ge_seq ?_
    refine gk_seq (by kernel_rfl) ?_
    refine gk_region (by kernel_rfl) ?_
    refine gl_pure 1 [4] (K' := [(4, .bool true)]) (by kernel_rfl) ?_
    refine gl_atE (by kernel_rfl) ?_
    refine ge_seq ?_
    refine gk_ret (by kernel_rfl) ?_
    obtain rfl := some_inj hr
    exact ge_result trivial (ResOk.tmp (by kernel_rfl) ResOk.nil) hI14 ⟨rfl, rfl⟩
/-! 30 nflog_Needs  -/
noncomputable def nflog_Needs (a0 : S23) (a1 : Bool) (a2 : Int) (a3 : Int) (a4 : List (List S79)) (a5 : List (List S79)) : Option (Bool × Int) :=
  bif ((((decide (a2 < 0)) || (decide (a2 > 1125899906842624))) || (decide (a3 < 1))) || (decide (a3 > 1099511627776))) then
  (some (false, 1))
  else
  (Option.bind (Option.bind (nflog_right a4) fun (y16 : Bool) =>
      bif (!y16) then
      (some true)
      else
      (Option.bind (nflog_right a5) fun (y19 : Bool) =>
        some (!y19))) fun (j11 : Bool) =>
    bif j11 then
    (some (false, 41))
    else
    (bif (!a1) then
      (some ((decide ((a4.length : Int) > 0)), 0))
      else
      (Option.bind (nflog_Right a0) fun (y23 : Int) =>
        bif (y23 != 0) then
        (some (false, y23))
        else
        (Option.bind (nflog_Within a4 a0.f3) fun (y26 : Bool) =>
          bif (!y26) then
          (some (true, 0))
          else
          (bif ((a4.length : Int) == 0) then
            (some ((decide ((a0.f3.length : Int) > 0)), 0))
            else
            (Option.bind (nflog_Within a5 a0.f4) fun (y30 : Bool) =>
              bif (!y30) then
              (some (true, 0))
              else
              (some ((decide (a0.f2 ≤ (IntKind.wrap .i64 (a2 - a3)))), 0))))))))
theorem nflog_Needs_walk {a0 : S23} {A0_3 : Option Addr} {n0_3 : Nat} {A0_4 : Option Addr} {n0_4 : Nat} {a1 : Bool} {a2 : Int} {a3 : Int} {a4 : List (List S79)} {A4_0 : Option Addr} {n4_0 : Nat} {a5 : List (List S79)} {A5_0 : Option Addr} {n5_0 : Nat} {I : Imm} {r : Bool × Int} (hG : Gl I)  (hf0_3 : RepS (Kd.sl kS79) I A0_3 n0_3 a0.f3) (hf0_4 : RepS (Kd.sl kS79) I A0_4 n0_4 a0.f4)  (hf4_0 : RepS (Kd.sl kS79) I A4_0 n4_0 a4)  (hf5_0 : RepS (Kd.sl kS79) I A5_0 n5_0 a5) (hr : nflog_Needs a0 a1 a2 a3 a4 a5 = some r) (L : Own) :
    CallsTo Tryd.prog 30 #[.agg #[.string a0.f0, .string a0.f1, .int .i64 a0.f2, .slice A0_3 a0.f3.length n0_3, .slice A0_4 a0.f4.length n0_4], .bool a1, .int .i64 a2, .int .i64 a3, .slice A4_0 a4.length n4_0, .slice A5_0 a5.length n5_0] I L (fun v I' L' => v = .tuple #[.bool r.1, .int .i64 r.2] ∧ L = L') := by
  unfold nflog_Needs at hr
  refine callsTo_body (N := 76) Tryd.func30 (by kernel_rfl) (by kernel_rfl) (by kernel_rfl) ?_
  refine gk_pick [0, 1, 2, 3, 4, 5] (K' := [(0, .agg #[.string a0.f0, .string a0.f1, .int .i64 a0.f2, .slice A0_3 a0.f3.length n0_3, .slice A0_4 a0.f4.length n0_4]), (1, .bool a1), (2, .int .i64 a2), (3, .int .i64 a3), (4, .slice A4_0 a4.length n4_0), (5, .slice A5_0 a5.length n5_0)]) (by kernel_rfl) ?_
  refine gk_seq (by kernel_rfl) ?_
  refine gk_region (by kernel_rfl) ?_
  refine gl_box (T' := 24) (x := (.tmp 0)) (v := .agg #[.string a0.f0, .string a0.f1, .int .i64 a0.f2, .slice A0_3 a0.f3.length n0_3, .slice A0_4 a0.f4.length n0_4]) (cs := #[.string a0.f0, .string a0.f1, .int .i64 a0.f2, .slice A0_3 a0.f3.length n0_3, .slice A0_4 a0.f4.length n0_4]) (by kernel_rfl) (by kernel_rfl) (by kernel_rfl) (by kernel_rfl) (fun g1 => ?_)
  refine gl_pure 2 [1, 2, 3, 4, 5, 6] (K' := [(1, .bool a1), (2, .int .i64 a2), (3, .int .i64 a3), (4, .slice A4_0 a4.length n4_0), (5, .slice A5_0 a5.length n5_0), (6, .pointer (some ⟨g1, 0, none⟩))]) (by kernel_rfl) ?_
  refine gl_atE (by kernel_rfl) ?_
  refine ge_seq ?_
  refine gk_seq (by kernel_rfl) ?_
  refine gk_block (by kernel_rfl) ?_
  refine gk_seq (by kernel_rfl) ?_
  obtain ⟨b4, hb5⟩ : ∃ z, z = ((((decide (a2 < 0)) || (decide (a2 > 1125899906842624))) || (decide (a3 < 1))) || (decide (a3 > 1099511627776))) := ⟨_, rfl⟩
  refine gk_join (fun t I' L' => I ≤ I' ∧ (g1, .cells #[.string a0.f0, .string a0.f1, .int .i64 a0.f2, .slice A0_3 a0.f3.length n0_3, .slice A0_4 a0.f4.length n0_4] 24) :: L = L' ∧ Knows 76 [(1, .bool a1), (2, .int .i64 a2), (3, .int .i64 a3), (4, .slice A4_0 a4.length n4_0), (5, .slice A5_0 a5.length n5_0), (6, .pointer (some ⟨g1, 0, none⟩)), (15, .bool b4)] t) ?_ ?_
  · refine gk_region (by kernel_rfl) ?_
    refine gl_pure 3 [1, 2, 3, 4, 5, 6, 18] (K' := [(1, .bool a1), (2, .int .i64 a2), (3, .int .i64 a3), (4, .slice A4_0 a4.length n4_0), (5, .slice A5_0 a5.length n5_0), (6, .pointer (some ⟨g1, 0, none⟩)), (18, .bool (decide (a2 < 0)))]) (by kernel_rfl) ?_
    refine gl_case 18 (b := (decide (a2 < 0))) (by kernel_rfl) (fun hc7 => ?_) (fun hc7 => ?_)
    · refine gl_pure 12 [1, 2, 3, 4, 5, 6, 15] (K' := [(1, .bool a1), (2, .int .i64 a2), (3, .int .i64 a3), (4, .slice A4_0 a4.length n4_0), (5, .slice A5_0 a5.length n5_0), (6, .pointer (some ⟨g1, 0, none⟩)), (15, .bool true)]) (by kernel_rfl) ?_
      refine gl_atE (by kernel_rfl) ?_
      exact ge_mid fun t ht => ⟨(Imm.refl _), rfl, by rw [(show b4 = true from hb5.trans (by rw [hc7]; try rfl))]; exact ht.pick (l := [1, 2, 3, 4, 5, 6, 15]) (by kernel_rfl)⟩
    · refine gl_pure 4 [1, 2, 3, 4, 5, 6, 22] (K' := [(1, .bool a1), (2, .int .i64 a2), (3, .int .i64 a3), (4, .slice A4_0 a4.length n4_0), (5, .slice A5_0 a5.length n5_0), (6, .pointer (some ⟨g1, 0, none⟩)), (22, .bool (decide (a2 > 1125899906842624)))]) (by kernel_rfl) ?_
      refine gl_case 22 (b := (decide (a2 > 1125899906842624))) (by kernel_rfl) (fun hc8 => ?_) (fun hc8 => ?_)
      · refine gl_pure 8 [1, 2, 3, 4, 5, 6, 15] (K' := [(1, .bool a1), (2, .int .i64 a2), (3, .int .i64 a3), (4, .slice A4_0 a4.length n4_0), (5, .slice A5_0 a5.length n5_0), (6, .pointer (some ⟨g1, 0, none⟩)), (15, .bool true)]) (by kernel_rfl) ?_
        refine gl_atE (by kernel_rfl) ?_
        exact ge_mid fun t ht => ⟨(Imm.refl _), rfl, by rw [(show b4 = true from hb5.trans (by rw [hc7, hc8]; try rfl))]; exact ht.pick (l := [1, 2, 3, 4, 5, 6, 15]) (by kernel_rfl)⟩
      · refine gl_pure 4 [1, 2, 3, 4, 5, 6, 26] (K' := [(1, .bool a1), (2, .int .i64 a2), (3, .int .i64 a3), (4, .slice A4_0 a4.length n4_0), (5, .slice A5_0 a5.length n5_0), (6, .pointer (some ⟨g1, 0, none⟩)), (26, .bool (decide (a3 < 1)))]) (by kernel_rfl) ?_
        refine gl_case 26 (b := (decide (a3 < 1))) (by kernel_rfl) (fun hc9 => ?_) (fun hc9 => ?_)
        · refine gl_pure 4 [1, 2, 3, 4, 5, 6, 15] (K' := [(1, .bool a1), (2, .int .i64 a2), (3, .int .i64 a3), (4, .slice A4_0 a4.length n4_0), (5, .slice A5_0 a5.length n5_0), (6, .pointer (some ⟨g1, 0, none⟩)), (15, .bool true)]) (by kernel_rfl) ?_
          refine gl_atE (by kernel_rfl) ?_
          exact ge_mid fun t ht => ⟨(Imm.refl _), rfl, by rw [(show b4 = true from hb5.trans (by rw [hc7, hc8, hc9]; try rfl))]; exact ht.pick (l := [1, 2, 3, 4, 5, 6, 15]) (by kernel_rfl)⟩
        · refine gl_pure 4 [1, 2, 3, 4, 5, 6, 15] (K' := [(1, .bool a1), (2, .int .i64 a2), (3, .int .i64 a3), (4, .slice A4_0 a4.length n4_0), (5, .slice A5_0 a5.length n5_0), (6, .pointer (some ⟨g1, 0, none⟩)), (15, .bool (decide (a3 > 1099511627776)))]) (by kernel_rfl) ?_
          refine gl_atE (by kernel_rfl) ?_
          exact ge_mid fun t ht => ⟨(Imm.refl _), rfl, by rw [(show b4 = (decide (a3 > 1099511627776)) from hb5.trans (by rw [hc7, hc8, hc9]; try rfl))]; exact ht.pick (l := [1, 2, 3, 4, 5, 6, 15]) (by kernel_rfl)⟩
  · rintro t I6 L' ⟨hI2, rfl, hK3⟩
    subst hb5
    refine ge_at hK3 ?_
    refine ge_seq ?_
    refine gk_cond (b := ((((decide (a2 < 0)) || (decide (a2 > 1125899906842624))) || (decide (a3 < 1))) || (decide (a3 > 1099511627776)))) (by kernel_rfl) (by kernel_rfl) (fun hc10 => ?_) (fun hc10 => ?_)
    · have hr := cond_t hc10 hr
      refine gk_seq (by kernel_rfl) ?_
      refine gk_region (by kernel_rfl) ?_
      refine gl_pure 2 [12, 13] (K' := [(12, .bool false), (13, .int .i64 1)]) (by kernel_rfl) ?_
      refine gl_atE (by kernel_rfl) ?_
      refine ge_seq ?_
      refine gk_reord (D := L) (Reord.skip (Reord.refl _)) ?_
      refine gk_ret (by kernel_rfl) ?_
      refine ge_block_ret ?_
      refine ge_seq_ret ?_
      obtain rfl := some_inj hr
      exact ge_result trivial (ResOk.tmp (by kernel_rfl) (ResOk.tmp (by kernel_rfl) ResOk.nil)) hI2 ⟨rfl, rfl⟩
    · have hr := cond_f hc10 hr
      refine gk_seq (by kernel_rfl) ?_
      obtain ⟨j11, hj12, hr⟩ := bind_some hr
      refine gk_join (fun t I' L' => I6 ≤ I' ∧ (g1, .cells #[.string a0.f0, .string a0.f1, .int .i64 a0.f2, .slice A0_3 a0.f3.length n0_3, .slice A0_4 a0.f4.length n0_4] 24) :: L = L' ∧ Knows 76 [(1, .bool a1), (2, .int .i64 a2), (3, .int .i64 a3), (4, .slice A4_0 a4.length n4_0), (5, .slice A5_0 a5.length n5_0), (6, .pointer (some ⟨g1, 0, none⟩)), (30, .bool j11)] t) ?_ ?_
      · refine gk_region (by kernel_rfl) ?_
        refine gl_pure 1 [1, 2, 3, 4, 5, 6, 31] (K' := [(1, .bool a1), (2, .int .i64 a2), (3, .int .i64 a3), (4, .slice A4_0 a4.length n4_0), (5, .slice A5_0 a5.length n5_0), (6, .pointer (some ⟨g1, 0, none⟩)), (31, .slice A4_0 a4.length n4_0)]) (by kernel_rfl) ?_
        obtain ⟨y16, hx17, hj12⟩ := bind_some hj12
        refine gl_callQ (by kernel_rfl) (nflog_right_walk (r := y16) (hG.mono hI2) (hf4_0.mono hI2) hx17 _) ?_
        refine gl_pure 2 [1, 2, 3, 4, 5, 6, 34] (K' := [(1, .bool a1), (2, .int .i64 a2), (3, .int .i64 a3), (4, .slice A4_0 a4.length n4_0), (5, .slice A5_0 a5.length n5_0), (6, .pointer (some ⟨g1, 0, none⟩)), (34, .bool (!y16))]) (by kernel_rfl) ?_
        refine gl_case 34 (b := (!y16)) (by kernel_rfl) (fun hc18 => ?_) (fun hc18 => ?_)
        · have hj12 := cond_t hc18 hj12
          refine gl_pure 5 [1, 2, 3, 4, 5, 6, 30] (K' := [(1, .bool a1), (2, .int .i64 a2), (3, .int .i64 a3), (4, .slice A4_0 a4.length n4_0), (5, .slice A5_0 a5.length n5_0), (6, .pointer (some ⟨g1, 0, none⟩)), (30, .bool true)]) (by kernel_rfl) ?_
          refine gl_atE (by kernel_rfl) ?_
          obtain rfl := some_inj hj12
          exact ge_mid fun t ht => ⟨(Imm.refl _), rfl, ht.pick (l := [1, 2, 3, 4, 5, 6, 30]) (by kernel_rfl)⟩
        · have hj12 := cond_f hc18 hj12
          refine gl_pure 1 [1, 2, 3, 4, 5, 6, 34, 35] (K' := [(1, .bool a1), (2, .int .i64 a2), (3, .int .i64 a3), (4, .slice A4_0 a4.length n4_0), (5, .slice A5_0 a5.length n5_0), (6, .pointer (some ⟨g1, 0, none⟩)), (34, .bool false), (35, .slice A5_0 a5.length n5_0)]) (by kernel_rfl) ?_
          obtain ⟨y19, hx20, hj12⟩ := bind_some hj12
          refine gl_callQ (by kernel_rfl) (nflog_right_walk (r := y19) (hG.mono hI2) (hf5_0.mono hI2) hx20 _) ?_
          refine gl_pure 3 [1, 2, 3, 4, 5, 6, 30] (K' := [(1, .bool a1), (2, .int .i64 a2), (3, .int .i64 a3), (4, .slice A4_0 a4.length n4_0), (5, .slice A5_0 a5.length n5_0), (6, .pointer (some ⟨g1, 0, none⟩)), (30, .bool (!y19))]) (by kernel_rfl) ?_
          refine gl_atE (by kernel_rfl) ?_
          obtain rfl := some_inj hj12
          exact ge_mid fun t ht => ⟨(Imm.refl _), rfl, ht.pick (l := [1, 2, 3, 4, 5, 6, 30]) (by kernel_rfl)⟩
      · rintro t I15 L' ⟨hI13, rfl, hK14⟩
        refine ge_at hK14 ?_
        refine ge_seq ?_
        refine gk_cond (b := j11) (by kernel_rfl) (by kernel_rfl) (fun hc21 => ?_) (fun hc21 => ?_)
        · have hr := cond_t hc21 hr
          refine gk_seq (by kernel_rfl) ?_
          refine gk_region (by kernel_rfl) ?_
          refine gl_pure 2 [12, 13] (K' := [(12, .bool false), (13, .int .i64 41)]) (by kernel_rfl) ?_
          refine gl_atE (by kernel_rfl) ?_
          refine ge_seq ?_
          refine gk_reord (D := L) (Reord.skip (Reord.refl _)) ?_
          refine gk_ret (by kernel_rfl) ?_
          refine ge_block_ret ?_
          refine ge_seq_ret ?_
          obtain rfl := some_inj hr
          exact ge_result trivial (ResOk.tmp (by kernel_rfl) (ResOk.tmp (by kernel_rfl) ResOk.nil)) (Imm.trans hI2 hI13) ⟨rfl, rfl⟩
        · have hr := cond_f hc21 hr
          refine gk_seq (by kernel_rfl) ?_
          refine gk_region (by kernel_rfl) ?_
          refine gl_pure 3 [2, 3, 4, 5, 6, 39] (K' := [(2, .int .i64 a2), (3, .int .i64 a3), (4, .slice A4_0 a4.length n4_0), (5, .slice A5_0 a5.length n5_0), (6, .pointer (some ⟨g1, 0, none⟩)), (39, .bool (!a1))]) (by kernel_rfl) ?_
          refine gl_atE (by kernel_rfl) ?_
          refine ge_seq ?_
          refine gk_cond (b := (!a1)) (by kernel_rfl) (by kernel_rfl) (fun hc22 => ?_) (fun hc22 => ?_)
          · have hr := cond_t hc22 hr
            refine gk_seq (by kernel_rfl) ?_
            refine gk_region (by kernel_rfl) ?_
            refine gl_pure 5 [12, 13] (K' := [(12, .bool (decide ((a4.length : Int) > 0))), (13, .int .i64 0)]) (by kernel_rfl) ?_
            refine gl_atE (by kernel_rfl) ?_
            refine ge_seq ?_
            refine gk_reord (D := L) (Reord.skip (Reord.refl _)) ?_
            refine gk_ret (by kernel_rfl) ?_
            refine ge_block_ret ?_
            refine ge_seq_ret ?_
            obtain rfl := some_inj hr
            exact ge_result trivial (ResOk.tmp (by kernel_rfl) (ResOk.tmp (by kernel_rfl) ResOk.nil)) (Imm.trans hI2 hI13) ⟨rfl, rfl⟩
          · have hr := cond_f hc22 hr
            refine gk_skip (by kernel_rfl) ?_
            refine ge_block_normal ?_
            refine ge_seq ?_
            refine gk_seq (by kernel_rfl) ?_
            refine gk_seq (by kernel_rfl) ?_
            refine gk_region (by kernel_rfl) ?_
            refine gl_loadB (T' := 24) (xp := (.tmp 6)) (v := .agg #[.string a0.f0, .string a0.f1, .int .i64 a0.f2, .slice A0_3 a0.f3.length n0_3, .slice A0_4 a0.f4.length n0_4]) (g := g1) (off := 0) (cs := #[.string a0.f0, .string a0.f1, .int .i64 a0.f2, .slice A0_3 a0.f3.length n0_3, .slice A0_4 a0.f4.length n0_4]) (e := 24) (fz := (0, 0)) (by kernel_rfl) (by kernel_rfl) (by kernel_rfl) List.mem_cons_self (by kernel_rfl) ?_
            obtain ⟨y23, hx24, hr⟩ := bind_some hr
            refine gl_callQ (by kernel_rfl) (nflog_Right_walk (r := y23) (hG.mono (Imm.trans hI2 hI13)) (hf0_3.mono (Imm.trans hI2 hI13)) (hf0_4.mono (Imm.trans hI2 hI13)) hx24 _) ?_
            refine gl_pure 1 [2, 3, 4, 5, 6, 14] (K' := [(2, .int .i64 a2), (3, .int .i64 a3), (4, .slice A4_0 a4.length n4_0), (5, .slice A5_0 a5.length n5_0), (6, .pointer (some ⟨g1, 0, none⟩)), (14, .int .i64 y23)]) (by kernel_rfl) ?_
            refine gl_atE (by kernel_rfl) ?_
            refine ge_seq ?_
            refine gk_seq (by kernel_rfl) ?_
            refine gk_region (by kernel_rfl) ?_
            refine gl_pure 2 [2, 3, 4, 5, 6, 14, 48] (K' := [(2, .int .i64 a2), (3, .int .i64 a3), (4, .slice A4_0 a4.length n4_0), (5, .slice A5_0 a5.length n5_0), (6, .pointer (some ⟨g1, 0, none⟩)), (14, .int .i64 y23), (48, .bool (y23 != 0))]) (by kernel_rfl) ?_
            refine gl_atE (by kernel_rfl) ?_
            refine ge_seq ?_
            refine gk_cond (b := (y23 != 0)) (by kernel_rfl) (by kernel_rfl) (fun hc25 => ?_) (fun hc25 => ?_)
            · have hr := cond_t hc25 hr
              refine gk_seq (by kernel_rfl) ?_
              refine gk_region (by kernel_rfl) ?_
              refine gl_pure 3 [12, 13] (K' := [(12, .bool false), (13, .int .i64 y23)]) (by kernel_rfl) ?_
              refine gl_atE (by kernel_rfl) ?_
              refine ge_seq ?_
              refine gk_reord (D := L) (Reord.skip (Reord.refl _)) ?_
              refine gk_ret (by kernel_rfl) ?_
              refine ge_seq_ret ?_
              obtain rfl := some_inj hr
              exact ge_result trivial (ResOk.tmp (by kernel_rfl) (ResOk.tmp (by kernel_rfl) ResOk.nil)) (Imm.trans hI2 hI13) ⟨rfl, rfl⟩
            · have hr := cond_f hc25 hr
              refine gk_skip (by kernel_rfl) ?_
              refine ge_seq ?_
              refine gk_seq (by kernel_rfl) ?_
              refine gk_block (by kernel_rfl) ?_
              refine gk_seq (by kernel_rfl) ?_
              refine gk_region (by kernel_rfl) ?_
              refine gl_pure 2 [2, 3, 4, 5, 6, 51, 52] (K' := [(2, .int .i64 a2), (3, .int .i64 a3), (4, .slice A4_0 a4.length n4_0), (5, .slice A5_0 a5.length n5_0), (6, .pointer (some ⟨g1, 0, none⟩)), (51, .slice A4_0 a4.length n4_0), (52, .pointer (some ⟨g1, 3, none⟩))]) (by kernel_rfl) ?_
              refine gl_loadB (T' := 22) (xp := (.tmp 52)) (v := .slice A0_3 a0.f3.length n0_3) (g := g1) (off := 3) (cs := #[.string a0.f0, .string a0.f1, .int .i64 a0.f2, .slice A0_3 a0.f3.length n0_3, .slice A0_4 a0.f4.length n0_4]) (e := 24) (fz := (0, 0)) (by kernel_rfl) (by kernel_rfl) (by kernel_rfl) List.mem_cons_self (by kernel_rfl) ?_
              obtain ⟨y26, hx27, hr⟩ := bind_some hr
              refine gl_callQ (by kernel_rfl) (nflog_Within_walk (r := y26) (hf4_0.mono (Imm.trans hI2 hI13)) (hf0_3.mono (Imm.trans hI2 hI13)) hx27 _) ?_
              refine gl_pure 2 [2, 3, 4, 5, 6, 50] (K' := [(2, .int .i64 a2), (3, .int .i64 a3), (4, .slice A4_0 a4.length n4_0), (5, .slice A5_0 a5.length n5_0), (6, .pointer (some ⟨g1, 0, none⟩)), (50, .bool (!y26))]) (by kernel_rfl) ?_
              refine gl_atE (by kernel_rfl) ?_
              refine ge_seq ?_
              refine gk_cond (b := (!y26)) (by kernel_rfl) (by kernel_rfl) (fun hc28 => ?_) (fun hc28 => ?_)
              · have hr := cond_t hc28 hr
                refine gk_seq (by kernel_rfl) ?_
                refine gk_region (by kernel_rfl) ?_
                refine gl_pure 2 [12, 13] (K' := [(12, .bool true), (13, .int .i64 0)]) (by kernel_rfl) ?_
                refine gl_atE (by kernel_rfl) ?_
                refine ge_seq ?_
                refine gk_reord (D := L) (Reord.skip (Reord.refl _)) ?_
                refine gk_ret (by kernel_rfl) ?_
                refine ge_block_ret ?_
                refine ge_seq_ret ?_
                obtain rfl := some_inj hr
                exact ge_result trivial (ResOk.tmp (by kernel_rfl) (ResOk.tmp (by kernel_rfl) ResOk.nil)) (Imm.trans hI2 hI13) ⟨rfl, rfl⟩
              · have hr := cond_f hc28 hr
                refine gk_seq (by kernel_rfl) ?_
                refine gk_region (by kernel_rfl) ?_
                refine gl_pure 4 [2, 3, 5, 6, 56] (K' := [(2, .int .i64 a2), (3, .int .i64 a3), (5, .slice A5_0 a5.length n5_0), (6, .pointer (some ⟨g1, 0, none⟩)), (56, .bool ((a4.length : Int) == 0))]) (by kernel_rfl) ?_
                refine gl_atE (by kernel_rfl) ?_
                refine ge_seq ?_
                refine gk_cond (b := ((a4.length : Int) == 0)) (by kernel_rfl) (by kernel_rfl) (fun hc29 => ?_) (fun hc29 => ?_)
                · have hr := cond_t hc29 hr
                  refine gk_seq (by kernel_rfl) ?_
                  refine gk_region (by kernel_rfl) ?_
                  refine gl_pure 1 [60] (K' := [(60, .pointer (some ⟨g1, 3, none⟩))]) (by kernel_rfl) ?_
                  refine gl_loadB (T' := 22) (xp := (.tmp 60)) (v := .slice A0_3 a0.f3.length n0_3) (g := g1) (off := 3) (cs := #[.string a0.f0, .string a0.f1, .int .i64 a0.f2, .slice A0_3 a0.f3.length n0_3, .slice A0_4 a0.f4.length n0_4]) (e := 24) (fz := (0, 0)) (by kernel_rfl) (by kernel_rfl) (by kernel_rfl) List.mem_cons_self (by kernel_rfl) ?_
                  refine gl_pure 4 [12, 13] (K' := [(12, .bool (decide ((a0.f3.length : Int) > 0))), (13, .int .i64 0)]) (by kernel_rfl) ?_
                  refine gl_atE (by kernel_rfl) ?_
                  refine ge_seq ?_
                  refine gk_reord (D := L) (Reord.skip (Reord.refl _)) ?_
                  refine gk_ret (by kernel_rfl) ?_
                  refine ge_block_ret ?_
                  refine ge_seq_ret ?_
                  obtain rfl := some_inj hr
                  exact ge_result trivial (ResOk.tmp (by kernel_rfl) (ResOk.tmp (by kernel_rfl) ResOk.nil)) (Imm.trans hI2 hI13) ⟨rfl, rfl⟩
                · have hr := cond_f hc29 hr
                  refine gk_seq (by kernel_rfl) ?_
                  refine gk_region (by kernel_rfl) ?_
                  refine gl_pure 2 [2, 3, 6, 65, 66] (K' := [(2, .int .i64 a2), (3, .int .i64 a3), (6, .pointer (some ⟨g1, 0, none⟩)), (65, .slice A5_0 a5.length n5_0), (66, .pointer (some ⟨g1, 4, none⟩))]) (by kernel_rfl) ?_
                  refine gl_loadB (T' := 22) (xp := (.tmp 66)) (v := .slice A0_4 a0.f4.length n0_4) (g := g1) (off := 4) (cs := #[.string a0.f0, .string a0.f1, .int .i64 a0.f2, .slice A0_3 a0.f3.length n0_3, .slice A0_4 a0.f4.length n0_4]) (e := 24) (fz := (0, 0)) (by kernel_rfl) (by kernel_rfl) (by kernel_rfl) List.mem_cons_self (by kernel_rfl) ?_
                  obtain ⟨y30, hx31, hr⟩ := bind_some hr
                  refine gl_callQ (by kernel_rfl) (nflog_Within_walk (r := y30) (hf5_0.mono (Imm.trans hI2 hI13)) (hf0_4.mono (Imm.trans hI2 hI13)) hx31 _) ?_
                  refine gl_pure 2 [2, 3, 6, 64] (K' := [(2, .int .i64 a2), (3, .int .i64 a3), (6, .pointer (some ⟨g1, 0, none⟩)), (64, .bool (!y30))]) (by kernel_rfl) ?_
                  refine gl_atE (by kernel_rfl) ?_
                  refine ge_seq ?_
                  refine gk_cond (b := (!y30)) (by kernel_rfl) (by kernel_rfl) (fun hc32 => ?_) (fun hc32 => ?_)
                  · have hr := cond_t hc32 hr
                    refine gk_seq (by kernel_rfl) ?_
                    refine gk_region (by kernel_rfl) ?_
                    refine gl_pure 2 [12, 13] (K' := [(12, .bool true), (13, .int .i64 0)]) (by kernel_rfl) ?_
                    refine gl_atE (by kernel_rfl) ?_
                    refine ge_seq ?_
                    refine gk_reord (D := L) (Reord.skip (Reord.refl _)) ?_
                    refine gk_ret (by kernel_rfl) ?_
                    refine ge_block_ret ?_
                    refine ge_seq_ret ?_
                    obtain rfl := some_inj hr
                    exact ge_result trivial (ResOk.tmp (by kernel_rfl) (ResOk.tmp (by kernel_rfl) ResOk.nil)) (Imm.trans hI2 hI13) ⟨rfl, rfl⟩
                  · have hr := cond_f hc32 hr
                    refine gk_skip (by kernel_rfl) ?_
                    refine ge_block_normal ?_
                    refine ge_seq ?_
                    refine gk_seq (by kernel_rfl) ?_
                    refine gk_region (by kernel_rfl) ?_
                    refine gl_pure 1 [2, 3, 70] (K' := [(2, .int .i64 a2), (3, .int .i64 a3), (70, .pointer (some ⟨g1, 2, none⟩))]) (by kernel_rfl) ?_
                    refine gl_loadB (T' := 2) (xp := (.tmp 70)) (v := .int .i64 a0.f2) (g := g1) (off := 2) (cs := #[.string a0.f0, .string a0.f1, .int .i64 a0.f2, .slice A0_3 a0.f3.length n0_3, .slice A0_4 a0.f4.length n0_4]) (e := 24) (fz := (0, 0)) (by kernel_rfl) (by kernel_rfl) (by kernel_rfl) List.mem_cons_self (by kernel_rfl) ?_
                    refine gl_pure 6 [12, 13] (K' := [(12, .bool (decide (a0.f2 ≤ (IntKind.wrap .i64 (a2 - a3))))), (13, .int .i64 0)]) (by kernel_rfl) ?_
                    refine gl_atE (by kernel_rfl) ?_
                    refine ge_seq ?_
                    refine gk_reord (D := L) (Reord.skip (Reord.refl _)) ?_
                    refine gk_ret (by kernel_rfl) ?_
                    obtain rfl := some_inj hr
                    exact ge_result trivial (ResOk.tmp (by kernel_rfl) (ResOk.tmp (by kernel_rfl) ResOk.nil)) (Imm.trans hI2 hI13) ⟨rfl, rfl⟩
/-! 14 nflog_Log_Needs ('obj', 'imm', 'imm', 'imm', 'imm', 'imm', 'imm') -/
noncomputable def nflog_Log_Needs (a0 : S77) (a1 : ByteArray) (a2 : ByteArray) (a3 : Int) (a4 : Int) (a5 : List (List S79)) (a6 : List (List S79)) : Option (Bool × Int) :=
  Option.bind (nflog_Log_Find a0 a1 a2) fun (y1 : S23 × Bool) =>
  Option.bind (nflog_Needs y1.1 y1.2 a3 a4 a5 a6) fun (y13 : Bool × Int) =>
  some (y13.1, y13.2)
theorem nflog_Log_Needs_walk {a0 : S77} {g0 : Nat} {T0 : TypeId} {A0_0 : Option Addr} {c0_0 : Nat} {C0_0 : Own} {a1 : ByteArray} {a2 : ByteArray} {a3 : Int} {a4 : Int} {a5 : List (List S79)} {A5_0 : Option Addr} {n5_0 : Nat} {a6 : List (List S79)} {A6_0 : Option Addr} {n6_0 : Nat} {I : Imm} {r : Bool × Int} (hG : Gl I)  (hO0_0 : OwnS kS86 87 I A0_0 c0_0 a0.f0.f0 C0_0)  (hf5_0 : RepS (Kd.sl kS79) I A5_0 n5_0 a5)  (hf6_0 : RepS (Kd.sl kS79) I A6_0 n6_0 a6) (hr : nflog_Log_Needs a0 a1 a2 a3 a4 a5 a6 = some r) (L : Own) :
    CallsTo Tryd.prog 14 #[.pointer (some ⟨g0, 0, none⟩), .string a1, .string a2, .int .i64 a3, .int .i64 a4, .slice A5_0 a5.length n5_0, .slice A6_0 a6.length n6_0] I ((g0, .cells #[.slice A0_0 a0.f0.f0.length c0_0] T0) :: (C0_0 ++ L)) (fun v I' L' => v = .tuple #[.bool r.1, .int .i64 r.2] ∧ (g0, .cells #[.slice A0_0 a0.f0.f0.length c0_0] T0) :: (C0_0 ++ L) = L') := by
  unfold nflog_Log_Needs at hr
  refine callsTo_body (N := 36) Tryd.func14 (by kernel_rfl) (by kernel_rfl) (by kernel_rfl) ?_
  refine gk_pick [0, 1, 2, 3, 4, 5, 6] (K' := [(0, .pointer (some ⟨g0, 0, none⟩)), (1, .string a1), (2, .string a2), (3, .int .i64 a3), (4, .int .i64 a4), (5, .slice A5_0 a5.length n5_0), (6, .slice A6_0 a6.length n6_0)]) (by kernel_rfl) ?_
  refine gk_seq (by kernel_rfl) ?_
  refine gk_region (by kernel_rfl) ?_
  refine gl_pure 2 [0, 1, 2, 3, 4, 5, 6] (K' := [(0, .pointer (some ⟨g0, 0, none⟩)), (1, .string a1), (2, .string a2), (3, .int .i64 a3), (4, .int .i64 a4), (5, .slice A5_0 a5.length n5_0), (6, .slice A6_0 a6.length n6_0)]) (by kernel_rfl) ?_
  refine gl_atE (by kernel_rfl) ?_
  refine ge_seq ?_
  refine gk_seq (by kernel_rfl) ?_
  refine gk_seq (by kernel_rfl) ?_
  refine gk_region (by kernel_rfl) ?_
  refine gl_pure 2 [0, 1, 2, 3, 4, 5, 6, 19] (K' := [(0, .pointer (some ⟨g0, 0, none⟩)), (1, .string a1), (2, .string a2), (3, .int .i64 a3), (4, .int .i64 a4), (5, .slice A5_0 a5.length n5_0), (6, .slice A6_0 a6.length n6_0), (19, .bool false)]) (by kernel_rfl) ?_
  refine gl_atE (by kernel_rfl) ?_
  refine ge_seq ?_
  refine gk_cond (b := false) (by kernel_rfl) (by kernel_rfl) (fun h => by cases h) (fun _ => ?_)
  refine gk_skip (by kernel_rfl) ?_
  refine ge_seq ?_
  refine gk_seq (by kernel_rfl) ?_
  refine gk_region (by kernel_rfl) ?_
  refine gl_pure 3 [3, 4, 5, 6, 21, 22, 23] (K' := [(3, .int .i64 a3), (4, .int .i64 a4), (5, .slice A5_0 a5.length n5_0), (6, .slice A6_0 a6.length n6_0), (21, .pointer (some ⟨g0, 0, none⟩)), (22, .string a1), (23, .string a2)]) (by kernel_rfl) ?_
  obtain ⟨y1, hx2, hr⟩ := bind_some hr
  refine gl_call (by kernel_rfl) (nflog_Log_Find_walk (r := y1) (g0 := g0) (T0 := T0) (A0_0 := A0_0) (c0_0 := c0_0) (C0_0 := C0_0) (a0 := a0) hO0_0 hx2 _) ?_
  rintro v I3 L4 hI5 ⟨A6, c7, A8, c9, hf10, hf11, rfl, rfl⟩
  refine gl_pure 3 [3, 4, 5, 6, 25, 26] (K' := [(3, .int .i64 a3), (4, .int .i64 a4), (5, .slice A5_0 a5.length n5_0), (6, .slice A6_0 a6.length n6_0), (25, .agg #[.string y1.1.f0, .string y1.1.f1, .int .i64 y1.1.f2, .slice A6 y1.1.f3.length c7, .slice A8 y1.1.f4.length c9]), (26, .bool y1.2)]) (by kernel_rfl) ?_
  refine gl_alloc (T' := 24) (cs := #[.string (⟨#[]⟩ : ByteArray), .string (⟨#[]⟩ : ByteArray), .int .i64 0, .slice none 0 0, .slice none 0 0]) (by kernel_rfl) (by kernel_rfl) (by kernel_rfl) (fun g12 => ?_)
  refine gl_storeB (T' := 24) (xp := (.tmp 16)) (xv := (.tmp 25)) (v := .agg #[.string y1.1.f0, .string y1.1.f1, .int .i64 y1.1.f2, .slice A6 y1.1.f3.length c7, .slice A8 y1.1.f4.length c9]) (g := g12) (off := 0) (cs := #[.string (⟨#[]⟩ : ByteArray), .string (⟨#[]⟩ : ByteArray), .int .i64 0, .slice none 0 0, .slice none 0 0]) (cs' := #[.string y1.1.f0, .string y1.1.f1, .int .i64 y1.1.f2, .slice A6 y1.1.f3.length c7, .slice A8 y1.1.f4.length c9]) (by kernel_rfl) (by kernel_rfl) (by kernel_rfl) (by kernel_rfl) (by kernel_rfl) (Upd.set _ _ _ _) ?_ (by kernel_rfl)
  refine gl_pure 1 [3, 4, 5, 6, 16, 17] (K' := [(3, .int .i64 a3), (4, .int .i64 a4), (5, .slice A5_0 a5.length n5_0), (6, .slice A6_0 a6.length n6_0), (16, .pointer (some ⟨g12, 0, none⟩)), (17, .bool y1.2)]) (by kernel_rfl) ?_
  refine gl_atE (by kernel_rfl) ?_
  refine ge_seq ?_
  refine gk_seq (by kernel_rfl) ?_
  refine gk_region (by kernel_rfl) ?_
  refine gl_loadB (T' := 24) (xp := (.tmp 16)) (v := .agg #[.string y1.1.f0, .string y1.1.f1, .int .i64 y1.1.f2, .slice A6 y1.1.f3.length c7, .slice A8 y1.1.f4.length c9]) (g := g12) (off := 0) (cs := #[.string y1.1.f0, .string y1.1.f1, .int .i64 y1.1.f2, .slice A6 y1.1.f3.length c7, .slice A8 y1.1.f4.length c9]) (e := 24) (fz := (0, 0)) (by kernel_rfl) (by kernel_rfl) (by kernel_rfl) List.mem_cons_self (by kernel_rfl) ?_
  refine gl_pure 5 [27, 28, 29, 30, 31, 32] (K' := [(27, .agg #[.string y1.1.f0, .string y1.1.f1, .int .i64 y1.1.f2, .slice A6 y1.1.f3.length c7, .slice A8 y1.1.f4.length c9]), (28, .bool y1.2), (29, .int .i64 a3), (30, .int .i64 a4), (31, .slice A5_0 a5.length n5_0), (32, .slice A6_0 a6.length n6_0)]) (by kernel_rfl) ?_
  obtain ⟨y13, hx14, hr⟩ := bind_some hr
  refine gl_callQ (by kernel_rfl) (nflog_Needs_walk (r := y13) (hG.mono hI5) hf10 hf11 (hf5_0.mono hI5) (hf6_0.mono hI5) hx14 _) ?_
  refine gl_pure 4 [14, 15] (K' := [(14, .bool y13.1), (15, .int .i64 y13.2)]) (by kernel_rfl) ?_
  refine gl_atE (by kernel_rfl) ?_
  refine ge_seq ?_
  refine gk_reord (D := (g0, .cells #[.slice A0_0 a0.f0.f0.length c0_0] T0) :: (C0_0 ++ L)) (Reord.step1 (Upd.one _ (Upd.rm1 _ _)) (Reord.step (Upd.one _ (Upd.rmC _ _)) (Reord.skip (Reord.refl _)))) ?_
  refine gk_ret (by kernel_rfl) ?_
  obtain rfl := some_inj hr
  exact ge_result trivial (ResOk.tmp (by kernel_rfl) (ResOk.tmp (by kernel_rfl) ResOk.nil)) hI5 ⟨rfl, rfl⟩
/-! 11 tocsinlaw26_awake  -/
noncomputable def tocsinlaw26_awake : Option Bool :=
  Option.bind (nflog_Log_Needs (⟨(⟨nflog_New.f0.f0⟩ : S75)⟩ : S77) (⟨#[116, 101, 97, 109]⟩ : ByteArray) (⟨#[107]⟩ : ByteArray) 100 50 [[(⟨(⟨#[97]⟩ : ByteArray), (⟨#[49]⟩ : ByteArray)⟩ : S79)]] []) fun (y25 : Bool × Int) =>
  Option.bind (nflog_Log_Put (⟨(⟨nflog_New.f0.f0⟩ : S75)⟩ : S77) (⟨(⟨#[116, 101, 97, 109]⟩ : ByteArray), (⟨#[107]⟩ : ByteArray), 100, [[(⟨(⟨#[97]⟩ : ByteArray), (⟨#[49]⟩ : ByteArray)⟩ : S79)]], []⟩ : S23)) fun (y30 : Int × S77) =>
  Option.bind (nflog_Log_Needs y30.2 (⟨#[116, 101, 97, 109]⟩ : ByteArray) (⟨#[107]⟩ : ByteArray) 120 50 [[(⟨(⟨#[97]⟩ : ByteArray), (⟨#[49]⟩ : ByteArray)⟩ : S79)]] []) fun (y39 : Bool × Int) =>
  Option.bind (nflog_Log_Needs y30.2 (⟨#[116, 101, 97, 109]⟩ : ByteArray) (⟨#[107]⟩ : ByteArray) 150 50 [[(⟨(⟨#[97]⟩ : ByteArray), (⟨#[49]⟩ : ByteArray)⟩ : S79)]] []) fun (y44 : Bool × Int) =>
  some ((((((y25.1 && (y25.2 == 0)) && (y30.1 == 0)) && (!y39.1)) && (y39.2 == 0)) && y44.1) && (y44.2 == 0))
theorem tocsinlaw26_awake_walk  {I : Imm} {r : Bool} (hG : Gl I) (hr : tocsinlaw26_awake = some r) (L : Own) :
    CallsTo Tryd.prog 11 #[] I L (fun v I' L' => v = .bool r ∧ L = L') := by
  unfold tocsinlaw26_awake at hr
  refine callsTo_body (N := 62) Tryd.func11 (by kernel_rfl) (by kernel_rfl) (by kernel_rfl) ?_
  refine gk_pick [] (K' := []) (by kernel_rfl) ?_
  refine gk_seq (by kernel_rfl) ?_
  refine gk_region (by kernel_rfl) ?_
  refine gl_pure 1 [] (K' := []) (by kernel_rfl) ?_
  refine gl_atE (by kernel_rfl) ?_
  refine ge_seq ?_
  refine gk_seq (by kernel_rfl) ?_
  refine gk_region (by kernel_rfl) ?_
  refine gl_call (by kernel_rfl) (nflog_New_walk (r := nflog_New)  rfl _) ?_
  rintro v I1 L2 hI3 ⟨g4, A5, c6, C7, hO8, rfl, rfl⟩
  refine gl_pure 1 [1] (K' := [(1, .pointer (some ⟨g4, 0, none⟩))]) (by kernel_rfl) ?_
  refine gl_atE (by kernel_rfl) ?_
  refine ge_seq ?_
  refine gk_seq (by kernel_rfl) ?_
  refine gk_seq (by kernel_rfl) ?_
  refine gk_region (by kernel_rfl) ?_
  refine gl_pure 2 [1, 12] (K' := [(1, .pointer (some ⟨g4, 0, none⟩)), (12, .bool false)]) (by kernel_rfl) ?_
  refine gl_atE (by kernel_rfl) ?_
  refine ge_seq ?_
  refine gk_cond (b := false) (by kernel_rfl) (by kernel_rfl) (fun h => by cases h) (fun _ => ?_)
  refine gk_skip (by kernel_rfl) ?_
  refine ge_seq ?_
  refine gk_seq (by kernel_rfl) ?_
  refine gk_region (by kernel_rfl) ?_
  refine gl_pure 1 [1, 13] (K' := [(1, .pointer (some ⟨g4, 0, none⟩)), (13, .agg #[.string (⟨#[97]⟩ : ByteArray), .string (⟨#[49]⟩ : ByteArray)])]) (by kernel_rfl) ?_
  refine gl_buildSlice (T' := 36) (e := 80) (n := 2) (len := 1) (parts := #[(0, (.tmp 13))]) (l := [(0, .agg #[.string (⟨#[97]⟩ : ByteArray), .string (⟨#[49]⟩ : ByteArray)])]) (cs := #[.string (⟨#[97]⟩ : ByteArray), .string (⟨#[49]⟩ : ByteArray)]) (by kernel_rfl) (by kernel_rfl) (by kernel_rfl) (by kernel_rfl) (by kernel_rfl) (fun g9 => ?_)
  have hO10 : OwnS kS79 80 I1 (some ⟨g9, 0, none⟩) 1 [(⟨(⟨#[97]⟩ : ByteArray), (⟨#[49]⟩ : ByteArray)⟩ : S79)] [(g9, .cells #[.string (⟨#[97]⟩ : ByteArray), .string (⟨#[49]⟩ : ByteArray)] 80)] := OwnS.lit (row_cons (l := [.string (⟨#[97]⟩ : ByteArray), .string (⟨#[49]⟩ : ByteArray)]) (kS79_mk (x := (⟨(⟨#[97]⟩ : ByteArray), (⟨#[49]⟩ : ByteArray)⟩ : S79)) ) (row_nil _ _)) rfl rfl rfl
  refine gl_reord (D := [(g9, .cells #[.string (⟨#[97]⟩ : ByteArray), .string (⟨#[49]⟩ : ByteArray)] 80)] ++ ((g4, .cells #[.slice A5 nflog_New.f0.f0.length c6] 78) :: (C7 ++ L))) (Reord.refl _) ?_
  refine gl_rest (Tk.step (Upd.rmC _ _) (Tk.nil _)) (fun J13 hJ14 hC15 => ?_)
  have hf16 := (OwnS.rest hO10 hJ14 hC15.left)
  refine gl_buildSlice (T' := 22) (e := 36) (n := 1) (len := 1) (parts := #[(0, (.tmp 14))]) (l := [(0, .slice (some ⟨g9, 0, none⟩) [(⟨(⟨#[97]⟩ : ByteArray), (⟨#[49]⟩ : ByteArray)⟩ : S79)].length 1)]) (cs := #[.slice (some ⟨g9, 0, none⟩) [(⟨(⟨#[97]⟩ : ByteArray), (⟨#[49]⟩ : ByteArray)⟩ : S79)].length 1]) (by kernel_rfl) (by kernel_rfl) (by kernel_rfl) (by kernel_rfl) (by kernel_rfl) (fun g17 => ?_)
  have hO18 : OwnS (Kd.sl kS79) 36 J13 (some ⟨g17, 0, none⟩) 1 [[(⟨(⟨#[97]⟩ : ByteArray), (⟨#[49]⟩ : ByteArray)⟩ : S79)]] [(g17, .cells #[.slice (some ⟨g9, 0, none⟩) [(⟨(⟨#[97]⟩ : ByteArray), (⟨#[49]⟩ : ByteArray)⟩ : S79)].length 1] 36)] := OwnS.lit (row_cons (l := [.slice (some ⟨g9, 0, none⟩) [(⟨(⟨#[97]⟩ : ByteArray), (⟨#[49]⟩ : ByteArray)⟩ : S79)].length 1]) ⟨_, _, rfl, hf16⟩ (row_nil _ _)) rfl rfl rfl
  refine gl_reord (D := [(g17, .cells #[.slice (some ⟨g9, 0, none⟩) [(⟨(⟨#[97]⟩ : ByteArray), (⟨#[49]⟩ : ByteArray)⟩ : S79)].length 1] 36)] ++ ((g4, .cells #[.slice A5 nflog_New.f0.f0.length c6] 78) :: (C7 ++ L))) (Reord.refl _) ?_
  refine gl_pure 1 [1, 2] (K' := [(1, .pointer (some ⟨g4, 0, none⟩)), (2, .slice (some ⟨g17, 0, none⟩) [[(⟨(⟨#[97]⟩ : ByteArray), (⟨#[49]⟩ : ByteArray)⟩ : S79)]].length 1)]) (by kernel_rfl) ?_
  refine gl_atE (by kernel_rfl) ?_
  refine ge_seq ?_
  refine gk_seq (by kernel_rfl) ?_
  refine gk_region (by kernel_rfl) ?_
  refine gl_pure 2 [1, 2, 17, 18] (K' := [(1, .pointer (some ⟨g4, 0, none⟩)), (2, .slice (some ⟨g17, 0, none⟩) [[(⟨(⟨#[97]⟩ : ByteArray), (⟨#[49]⟩ : ByteArray)⟩ : S79)]].length 1), (17, .pointer (some ⟨g4, 0, none⟩)), (18, .slice (some ⟨g17, 0, none⟩) [[(⟨(⟨#[97]⟩ : ByteArray), (⟨#[49]⟩ : ByteArray)⟩ : S79)]].length 1)]) (by kernel_rfl) ?_
  refine gl_rest (Tk.step (Upd.rmC _ _) (Tk.nil _)) (fun J21 hJ22 hC23 => ?_)
  have hf24 := (OwnS.rest hO18 hJ22 hC23.left)
  obtain ⟨y25, hx26, hr⟩ := bind_some hr
  refine gl_call (by kernel_rfl) (nflog_Log_Needs_walk (r := y25) (g0 := g4) (T0 := 78) (A0_0 := A5) (c0_0 := c6) (C0_0 := C7) (a0 := (⟨(⟨nflog_New.f0.f0⟩ : S75)⟩ : S77)) (hG.mono (Imm.trans (Imm.trans hI3 hJ14) hJ22)) (hO8.mono (Imm.trans hJ14 hJ22)) hf24 (RepS.nil _ _) hx26 _) ?_
  rintro v I27 L28 hI29 ⟨rfl, rfl⟩
  refine gl_pure 5 [1, 2, 3, 4] (K' := [(1, .pointer (some ⟨g4, 0, none⟩)), (2, .slice (some ⟨g17, 0, none⟩) [[(⟨(⟨#[97]⟩ : ByteArray), (⟨#[49]⟩ : ByteArray)⟩ : S79)]].length 1), (3, .bool y25.1), (4, .int .i64 y25.2)]) (by kernel_rfl) ?_
  refine gl_atE (by kernel_rfl) ?_
  refine ge_seq ?_
  refine gk_seq (by kernel_rfl) ?_
  refine gk_region (by kernel_rfl) ?_
  refine gl_pure 3 [1, 2, 3, 4, 22, 24] (K' := [(1, .pointer (some ⟨g4, 0, none⟩)), (2, .slice (some ⟨g17, 0, none⟩) [[(⟨(⟨#[97]⟩ : ByteArray), (⟨#[49]⟩ : ByteArray)⟩ : S79)]].length 1), (3, .bool y25.1), (4, .int .i64 y25.2), (22, .pointer (some ⟨g4, 0, none⟩)), (24, .agg #[.string (⟨#[116, 101, 97, 109]⟩ : ByteArray), .string (⟨#[107]⟩ : ByteArray), .int .i64 100, .slice (some ⟨g17, 0, none⟩) [[(⟨(⟨#[97]⟩ : ByteArray), (⟨#[49]⟩ : ByteArray)⟩ : S79)]].length 1, .slice none 0 0])]) (by kernel_rfl) ?_
  obtain ⟨y30, hx31, hr⟩ := bind_some hr
  refine gl_call (by kernel_rfl) (nflog_Log_Put_walk (r := y30) (g0 := g4) (T0 := 78) (A0_0 := A5) (c0_0 := c6) (C0_0 := C7) (a0 := (⟨(⟨nflog_New.f0.f0⟩ : S75)⟩ : S77)) (hG.mono (Imm.trans (Imm.trans (Imm.trans hI3 hJ14) hJ22) hI29)) (hO8.mono (Imm.trans (Imm.trans hJ14 hJ22) hI29)) (hf24.mono hI29) (RepS.nil _ _) hx31 _) ?_
  rintro v I32 L33 hI34 ⟨A35, c36, C37, hO38, rfl, rfl⟩
  refine gl_pure 1 [1, 2, 3, 4, 5] (K' := [(1, .pointer (some ⟨g4, 0, none⟩)), (2, .slice (some ⟨g17, 0, none⟩) [[(⟨(⟨#[97]⟩ : ByteArray), (⟨#[49]⟩ : ByteArray)⟩ : S79)]].length 1), (3, .bool y25.1), (4, .int .i64 y25.2), (5, .int .i64 y30.1)]) (by kernel_rfl) ?_
  refine gl_atE (by kernel_rfl) ?_
  refine ge_seq ?_
  refine gk_seq (by kernel_rfl) ?_
  refine gk_region (by kernel_rfl) ?_
  refine gl_pure 2 [1, 2, 3, 4, 5, 27, 28] (K' := [(1, .pointer (some ⟨g4, 0, none⟩)), (2, .slice (some ⟨g17, 0, none⟩) [[(⟨(⟨#[97]⟩ : ByteArray), (⟨#[49]⟩ : ByteArray)⟩ : S79)]].length 1), (3, .bool y25.1), (4, .int .i64 y25.2), (5, .int .i64 y30.1), (27, .pointer (some ⟨g4, 0, none⟩)), (28, .slice (some ⟨g17, 0, none⟩) [[(⟨(⟨#[97]⟩ : ByteArray), (⟨#[49]⟩ : ByteArray)⟩ : S79)]].length 1)]) (by kernel_rfl) ?_
  obtain ⟨y39, hx40, hr⟩ := bind_some hr
  refine gl_call (by kernel_rfl) (nflog_Log_Needs_walk (r := y39) (g0 := g4) (T0 := 78) (A0_0 := A35) (c0_0 := c36) (C0_0 := C37) (a0 := y30.2) (hG.mono (Imm.trans (Imm.trans (Imm.trans (Imm.trans hI3 hJ14) hJ22) hI29) hI34)) hO38 (hf24.mono (Imm.trans hI29 hI34)) (RepS.nil _ _) hx40 _) ?_
  rintro v I41 L42 hI43 ⟨rfl, rfl⟩
  refine gl_pure 5 [1, 2, 3, 4, 5, 6, 7] (K' := [(1, .pointer (some ⟨g4, 0, none⟩)), (2, .slice (some ⟨g17, 0, none⟩) [[(⟨(⟨#[97]⟩ : ByteArray), (⟨#[49]⟩ : ByteArray)⟩ : S79)]].length 1), (3, .bool y25.1), (4, .int .i64 y25.2), (5, .int .i64 y30.1), (6, .bool y39.1), (7, .int .i64 y39.2)]) (by kernel_rfl) ?_
  refine gl_atE (by kernel_rfl) ?_
  refine ge_seq ?_
  refine gk_seq (by kernel_rfl) ?_
  refine gk_region (by kernel_rfl) ?_
  refine gl_pure 2 [3, 4, 5, 6, 7, 33, 34] (K' := [(3, .bool y25.1), (4, .int .i64 y25.2), (5, .int .i64 y30.1), (6, .bool y39.1), (7, .int .i64 y39.2), (33, .pointer (some ⟨g4, 0, none⟩)), (34, .slice (some ⟨g17, 0, none⟩) [[(⟨(⟨#[97]⟩ : ByteArray), (⟨#[49]⟩ : ByteArray)⟩ : S79)]].length 1)]) (by kernel_rfl) ?_
  obtain ⟨y44, hx45, hr⟩ := bind_some hr
  refine gl_call (by kernel_rfl) (nflog_Log_Needs_walk (r := y44) (g0 := g4) (T0 := 78) (A0_0 := A35) (c0_0 := c36) (C0_0 := C37) (a0 := y30.2) (hG.mono (Imm.trans (Imm.trans (Imm.trans (Imm.trans (Imm.trans hI3 hJ14) hJ22) hI29) hI34) hI43)) (hO38.mono hI43) (hf24.mono (Imm.trans (Imm.trans hI29 hI34) hI43)) (RepS.nil _ _) hx45 _) ?_
  rintro v I46 L47 hI48 ⟨rfl, rfl⟩
  refine gl_pure 5 [3, 4, 5, 6, 7, 8, 9] (K' := [(3, .bool y25.1), (4, .int .i64 y25.2), (5, .int .i64 y30.1), (6, .bool y39.1), (7, .int .i64 y39.2), (8, .bool y44.1), (9, .int .i64 y44.2)]) (by kernel_rfl) ?_
  refine gl_atE (by kernel_rfl) ?_
  refine ge_seq ?_
  refine gk_seq (by kernel_rfl) ?_
  obtain ⟨b51, hb52⟩ : ∃ z, z = ((((((y25.1 && (y25.2 == 0)) && (y30.1 == 0)) && (!y39.1)) && (y39.2 == 0)) && y44.1) && (y44.2 == 0)) := ⟨_, rfl⟩
  refine gk_join (fun t I' L' => I46 ≤ I' ∧ (g4, .cells #[.slice A35 y30.2.f0.f0.length c36] 78) :: (C37 ++ L) = L' ∧ Knows 62 [(0, .bool b51)] t) ?_ ?_
  · refine gk_region (by kernel_rfl) ?_
    refine gl_pure 2 [4, 5, 6, 7, 8, 9, 39] (K' := [(4, .int .i64 y25.2), (5, .int .i64 y30.1), (6, .bool y39.1), (7, .int .i64 y39.2), (8, .bool y44.1), (9, .int .i64 y44.2), (39, .bool y25.1)]) (by kernel_rfl) ?_
    refine gl_case 39 (b := y25.1) (by kernel_rfl) (fun hc54 => ?_) (fun hc54 => ?_)
    · refine gl_pure 4 [5, 6, 7, 8, 9, 43] (K' := [(5, .int .i64 y30.1), (6, .bool y39.1), (7, .int .i64 y39.2), (8, .bool y44.1), (9, .int .i64 y44.2), (43, .bool (y25.2 == 0))]) (by kernel_rfl) ?_
      refine gl_case 43 (b := (y25.2 == 0)) (by kernel_rfl) (fun hc55 => ?_) (fun hc55 => ?_)
      · refine gl_pure 4 [6, 7, 8, 9, 47] (K' := [(6, .bool y39.1), (7, .int .i64 y39.2), (8, .bool y44.1), (9, .int .i64 y44.2), (47, .bool (y30.1 == 0))]) (by kernel_rfl) ?_
        refine gl_case 47 (b := (y30.1 == 0)) (by kernel_rfl) (fun hc56 => ?_) (fun hc56 => ?_)
        · refine gl_pure 4 [7, 8, 9, 51] (K' := [(7, .int .i64 y39.2), (8, .bool y44.1), (9, .int .i64 y44.2), (51, .bool (!y39.1))]) (by kernel_rfl) ?_
          refine gl_case 51 (b := (!y39.1)) (by kernel_rfl) (fun hc57 => ?_) (fun hc57 => ?_)
          · refine gl_pure 4 [8, 9, 55] (K' := [(8, .bool y44.1), (9, .int .i64 y44.2), (55, .bool (y39.2 == 0))]) (by kernel_rfl) ?_
            refine gl_case 55 (b := (y39.2 == 0)) (by kernel_rfl) (fun hc58 => ?_) (fun hc58 => ?_)
            · refine gl_pure 3 [9, 58] (K' := [(9, .int .i64 y44.2), (58, .bool y44.1)]) (by kernel_rfl) ?_
              refine gl_case 58 (b := y44.1) (by kernel_rfl) (fun hc59 => ?_) (fun hc59 => ?_)
              · refine gl_pure 4 [0] (K' := [(0, .bool (y44.2 == 0))]) (by kernel_rfl) ?_
                refine gl_atE (by kernel_rfl) ?_
                exact ge_mid fun t ht => ⟨(Imm.refl _), rfl, by rw [(show b51 = (y44.2 == 0) from hb52.trans (by rw [hc54, hc55, hc56, hc57, hc58, hc59]; try rfl))]; exact ht.pick (l := [0]) (by kernel_rfl)⟩
              · refine gl_pure 4 [0] (K' := [(0, .bool false)]) (by kernel_rfl) ?_
                refine gl_atE (by kernel_rfl) ?_
                exact ge_mid fun t ht => ⟨(Imm.refl _), rfl, by rw [(show b51 = false from hb52.trans (by rw [hc54, hc55, hc56, hc57, hc58, hc59]; try rfl))]; exact ht.pick (l := [0]) (by kernel_rfl)⟩
            · refine gl_pure 7 [0] (K' := [(0, .bool false)]) (by kernel_rfl) ?_
              refine gl_atE (by kernel_rfl) ?_
              exact ge_mid fun t ht => ⟨(Imm.refl _), rfl, by rw [(show b51 = false from hb52.trans (by rw [hc54, hc55, hc56, hc57, hc58]; try rfl))]; exact ht.pick (l := [0]) (by kernel_rfl)⟩
          · refine gl_pure 11 [0] (K' := [(0, .bool false)]) (by kernel_rfl) ?_
            refine gl_atE (by kernel_rfl) ?_
            exact ge_mid fun t ht => ⟨(Imm.refl _), rfl, by rw [(show b51 = false from hb52.trans (by rw [hc54, hc55, hc56, hc57]; try rfl))]; exact ht.pick (l := [0]) (by kernel_rfl)⟩
        · refine gl_pure 15 [0] (K' := [(0, .bool false)]) (by kernel_rfl) ?_
          refine gl_atE (by kernel_rfl) ?_
          exact ge_mid fun t ht => ⟨(Imm.refl _), rfl, by rw [(show b51 = false from hb52.trans (by rw [hc54, hc55, hc56]; try rfl))]; exact ht.pick (l := [0]) (by kernel_rfl)⟩
      · refine gl_pure 19 [0] (K' := [(0, .bool false)]) (by kernel_rfl) ?_
        refine gl_atE (by kernel_rfl) ?_
        exact ge_mid fun t ht => ⟨(Imm.refl _), rfl, by rw [(show b51 = false from hb52.trans (by rw [hc54, hc55]; try rfl))]; exact ht.pick (l := [0]) (by kernel_rfl)⟩
    · refine gl_pure 23 [0] (K' := [(0, .bool false)]) (by kernel_rfl) ?_
      refine gl_atE (by kernel_rfl) ?_
      exact ge_mid fun t ht => ⟨(Imm.refl _), rfl, by rw [(show b51 = false from hb52.trans (by rw [hc54]; try rfl))]; exact ht.pick (l := [0]) (by kernel_rfl)⟩
  · rintro t I53 L' ⟨hI49, rfl, hK50⟩
    subst hb52
    refine ge_at hK50 ?_
    refine ge_seq ?_
    refine gk_reord (D := L) (Reord.skip (Reord.skipC (Reord.refl _))) ?_
    refine gk_ret (by kernel_rfl) ?_
    obtain rfl := some_inj hr
    exact ge_result trivial (ResOk.tmp (by kernel_rfl) ResOk.nil) (Imm.trans (Imm.trans (Imm.trans (Imm.trans (Imm.trans (Imm.trans (Imm.trans hI3 hJ14) hJ22) hI29) hI34) hI43) hI48) hI49) ⟨rfl, rfl⟩
def laysSort_ren : Go.Shelf.Ren := ⟨fun x => if x = 6 then 79 else if x = 15 then 114 else if x = 14 then 113 else if x = 28 then 136 else if x = 29 then 137 else if x = 20 then 128 else if x = 21 then 129 else if x = 22 then 130 else if x = 23 then 131 else if x = 24 then 132 else if x = 25 then 133 else if x = 26 then 134 else if x = 27 then 135 else if x = 46 then 141 else if x = 47 then 142 else if x = 48 then 143 else if x = 49 then 144 else if x = 50 then 145 else if x = 57 then 149 else x, fun x => if x = 24 then 36 else if x = 25 then 121 else if x = 39 then 142 else if x = 53 then 166 else if x = 55 then 106 else if x = 46 then 160 else if x = 45 then 159 else if x = 50 then 84 else if x = 66 then 169 else if x = 70 then 173 else if x = 76 then 176 else if x = 77 then 177 else x, fun x => x⟩
theorem laysSort : Go.Proofs.SlLaysF.n6 Tryd.prog laysSort_ren := {
  mixed := by kernel_rfl,
  f6 := ⟨Tryd.f79.name, by decide, Tryd.func79.trans (congrArg some (by kernel_rfl))⟩,
  f14 := ⟨Tryd.f113.name, by decide, Tryd.func113.trans (congrArg some (by kernel_rfl))⟩,
  f15 := Tryd.func114.trans (congrArg some (by kernel_rfl)),
  f20 := ⟨Tryd.f128.name, by decide, Tryd.func128.trans (congrArg some (by kernel_rfl))⟩,
  f21 := ⟨Tryd.f129.name, by decide, Tryd.func129.trans (congrArg some (by kernel_rfl))⟩,
  f22 := ⟨Tryd.f130.name, by decide, Tryd.func130.trans (congrArg some (by kernel_rfl))⟩,
  f23 := ⟨Tryd.f131.name, by decide, Tryd.func131.trans (congrArg some (by kernel_rfl))⟩,
  f24 := ⟨Tryd.f132.name, by decide, Tryd.func132.trans (congrArg some (by kernel_rfl))⟩,
  f25 := ⟨Tryd.f133.name, by decide, Tryd.func133.trans (congrArg some (by kernel_rfl))⟩,
  f26 := ⟨Tryd.f134.name, by decide, Tryd.func134.trans (congrArg some (by kernel_rfl))⟩,
  f27 := ⟨Tryd.f135.name, by decide, Tryd.func135.trans (congrArg some (by kernel_rfl))⟩,
  f28 := Tryd.func136.trans (congrArg some (by kernel_rfl)),
  f29 := Tryd.func137.trans (congrArg some (by kernel_rfl)),
  f46 := ⟨Tryd.f141.name, by decide, Tryd.func141.trans (congrArg some (by kernel_rfl))⟩,
  f47 := Tryd.func142.trans (congrArg some (by kernel_rfl)),
  f48 := Tryd.func143.trans (congrArg some (by kernel_rfl)),
  f49 := ⟨Tryd.f144.name, by decide, Tryd.func144.trans (congrArg some (by kernel_rfl))⟩,
  f50 := ⟨Tryd.f145.name, by decide, Tryd.func145.trans (congrArg some (by kernel_rfl))⟩,
  f57 := ⟨Tryd.f149.name, by decide, Tryd.func149.trans (congrArg some (by kernel_rfl))⟩,
  t0 := Tryd.underlying0,
  a0 := Tryd.isAgg0,
  z0 := Tryd.sizeOf0,
  v0 := Tryd.zeroValue0,
  t3 := Tryd.underlying3,
  a3 := Tryd.isAgg3,
  z3 := Tryd.sizeOf3,
  v3 := Tryd.zeroValue3,
  t4 := Tryd.underlying4,
  a4 := Tryd.isAgg4,
  z4 := Tryd.sizeOf4,
  v4 := Tryd.zeroValue4,
  t5 := Tryd.underlying5,
  a5 := Tryd.isAgg5,
  z5 := Tryd.sizeOf5,
  v5 := Tryd.zeroValue5,
  t9 := Tryd.underlying9,
  a9 := Tryd.isAgg9,
  z9 := Tryd.sizeOf9,
  v9 := Tryd.zeroValue9,
  t22 := Tryd.underlying22,
  a22 := Tryd.isAgg22,
  z22 := Tryd.sizeOf22,
  v22 := Tryd.zeroValue22,
  a24 := Tryd.isAgg36,
  z24 := Tryd.sizeOf36,
  t25 := Tryd.underlying121,
  a25 := Tryd.isAgg121,
  z25 := Tryd.sizeOf121,
  v25 := Tryd.zeroValue121,
  t39 := Tryd.underlying142,
  a39 := Tryd.isAgg142,
  z39 := Tryd.sizeOf142,
  v39 := Tryd.zeroValue142,
  t45 := Tryd.underlying159,
  a45 := Tryd.isAgg159,
  z45 := Tryd.sizeOf159,
  v45 := Tryd.zeroValue159,
  t46 := Tryd.underlying160,
  a46 := Tryd.isAgg160,
  z46 := Tryd.sizeOf160,
  v46 := Tryd.zeroValue160,
  t50 := Tryd.underlying84,
  a50 := Tryd.isAgg84,
  z50 := Tryd.sizeOf84,
  v50 := Tryd.zeroValue84,
  t53 := Tryd.underlying166,
  a53 := Tryd.isAgg166,
  z53 := Tryd.sizeOf166,
  v53 := Tryd.zeroValue166,
  t55 := Tryd.underlying106,
  a55 := Tryd.isAgg106,
  z55 := Tryd.sizeOf106,
  v55 := Tryd.zeroValue106,
  t66 := Tryd.underlying169,
  a66 := Tryd.isAgg169,
  z66 := Tryd.sizeOf169,
  v66 := Tryd.zeroValue169,
  t70 := Tryd.underlying173,
  a70 := Tryd.isAgg173,
  z70 := Tryd.sizeOf173,
  v70 := Tryd.zeroValue173,
  t76 := Tryd.underlying176,
  a76 := Tryd.isAgg176,
  z76 := Tryd.sizeOf176,
  v76 := Tryd.zeroValue176,
  t77 := Tryd.underlying177,
  a77 := Tryd.isAgg177,
  z77 := Tryd.sizeOf177,
  v77 := Tryd.zeroValue177 }

theorem slices_SortFunc_79_76_walk {a0 : List (List S79)} {A : Option Addr} {c : Nat} {C : Own} {I : Imm} {r : List (List S79)} (hO : OwnS (Kd.sl kS79) 36 I A c a0 C) (hr : sortO (fun l => l.length ≤ 2147483648) labels_Compare a0 = some r) (L : Own) :
    CallsTo Tryd.prog 79 #[.slice A a0.length c, .func (.func 76) #[] #[]] I (C ++ L) (fun v I' L' => ∃ C', OwnS (Kd.sl kS79) 36 I' A c r C' ∧ v = .tuple #[] ∧ C' ++ L = L') :=
  callsTo_sortFunc laysSort rfl (fun J x v h => by obtain ⟨A', c', h1, h2⟩ := sl_open h; exact h2.max) hO hr (enters_of Tryd.func76 (by kernel_rfl) rfl)
    (fun {J x y vx vy k} hx hy hk L => by
      obtain ⟨A1, c1, h1, h2⟩ := sl_open hx
      obtain ⟨A2, c2, h3, h4⟩ := sl_open hy
      cases h1; cases h3
      exact labels_Compare_walk h2 h4 hk L) L

structure Fn123 (I : Imm) (fv : Value) (f : (List S79) → (List S79) → Option Bool) : Prop where
  out : ∀ I', I ≤ I' → ∀ (x0 : List S79) (x1 : List S79) (r : Bool), f x0 x1 = some r → ∀ A0_0 c0_0 A1_0 c1_0, RepS kS79 I' A0_0 c0_0 x0 → RepS kS79 I' A1_0 c1_0 x1 → ∀ L, CallsV Tryd.prog fv [.slice A0_0 x0.length c0_0, .slice A1_0 x1.length c1_0] I' L (fun v I' L' => v = .bool r ∧ L = L')
theorem Fn123.mono {I J : Imm} {fv : Value} {f : (List S79) → (List S79) → Option Bool} (h : Fn123 I fv f) (hI : I ≤ J) : Fn123 J fv f := ⟨fun I' hI' => h.out I' (Imm.trans hI hI')⟩
/-! 80 slices_CompactFunc_f80 ('own', 'imm') -/
noncomputable def slices_CompactFunc_f80_l71 (a1 : (List S79) → (List S79) → Option Bool) (s8 : Int) (l47 : List (List S79)) : ((List (List S79)) × Int × Int) → Option (((List (List S79)) × Int × Int) ⊕ ((List (List S79)) × Int)) := fun s58 =>
  bif (decide (s58.2.2 < (l47.length : Int))) then
  (Option.bind (ixv s58.1 s8 l47.length s58.2.2) fun (x74 : List S79) =>
    Option.bind (ixv s58.1 s8 l47.length (IntKind.wrap .i64 (s58.2.2 - 1))) fun (x85 : List S79) =>
    Option.bind (a1 x74 x85) fun (y97 : Bool) =>
    Option.bind (bif (!y97) then
      (Option.bind (ixv s58.1 s8 l47.length s58.2.2) fun (x106 : List S79) =>
        Option.bind (ix s58.1 s58.2.1) fun (x117 : List S79) =>
        some ((lset s58.1 s58.2.1 x106), (IntKind.wrap .i64 (s58.2.1 + 1))))
      else
      (some (s58.1, s58.2.1))) fun (j98 : (List (List S79)) × Int) =>
    some (Sum.inl (j98.1, j98.2, (IntKind.wrap .i64 (s58.2.2 + 1)))))
  else
  (some (Sum.inr (s58.1, s58.2.1)))
noncomputable def slices_CompactFunc_f80_l18 (a0 : List (List S79)) (a1 : (List S79) → (List S79) → Option Bool) : Int → Option ((Int) ⊕ ((Unit) ⊕ ((List (List S79))))) := fun s8 =>
  bif (decide (s8 < (a0.length : Int))) then
  (Option.bind (ix a0 s8) fun (x21 : List S79) =>
    Option.bind (ix a0 (IntKind.wrap .i64 (s8 - 1))) fun (x32 : List S79) =>
    Option.bind (a1 x21 x32) fun (y44 : Bool) =>
    bif y44 then
    (Option.bind (lx a0 s8 (a0.length : Int)) fun (l47 : List (List S79)) =>
      Option.bind (loopO (slices_CompactFunc_f80_l71 a1 s8 l47) (a0, s8, 1)) fun (r56 : (List (List S79)) × Int) =>
      Option.bind (lx r56.1 r56.2 (r56.1.length : Int)) fun (l133 : List (List S79)) =>
      Option.bind (clrv r56.1 r56.2 l133.length ([] : List S79)) fun (zs136 : List (List S79)) =>
      Option.bind (lx zs136 0 r56.2) fun (l142 : List (List S79)) =>
      some (Sum.inr (Sum.inr l142)))
    else
    (some (Sum.inl (IntKind.wrap .i64 (s8 + 1)))))
  else
  (some (Sum.inr (Sum.inl ())))
noncomputable def slices_CompactFunc_f80 (a0 : List (List S79)) (a1 : (List S79) → (List S79) → Option Bool) : Option (List (List S79)) :=
  bif (decide ((a0.length : Int) < 2)) then
  (some a0)
  else
  (Option.bind (loopO (slices_CompactFunc_f80_l18 a0 a1) 1) fun (r6 : (Unit) ⊕ ((List (List S79)))) =>
    match r6 with
    | Sum.inl r14 => some a0
    | Sum.inr v145 => some v145)
theorem slices_CompactFunc_f80_walk {a0 : List (List S79)} {A0 : Option Addr} {c0 : Nat} {C0 : Own} {a1 : (List S79) → (List S79) → Option Bool} {fv1 : Value} {I : Imm} {r : (List (List S79))} (hO0 : OwnS (Kd.sl kS79) 36 I A0 c0 a0 C0) (hf1 : Fn123 I fv1 a1) (hr : slices_CompactFunc_f80 a0 a1 = some r) (L : Own) :
    CallsTo Tryd.prog 80 #[.slice A0 a0.length c0, fv1] I (C0 ++ L) (fun v I' L' => ∃ A0 c0 C0, OwnS (Kd.sl kS79) 36 I' A0 c0 r C0 ∧ v = .slice A0 r.length c0 ∧ C0 ++ L = L') := by
  unfold slices_CompactFunc_f80 at hr
  refine callsTo_body (N := 66) Tryd.func80 (by kernel_rfl) (by kernel_rfl) (by kernel_rfl) ?_
  refine gk_pick [0, 1] (K' := [(0, .slice A0 a0.length c0), (1, fv1)]) (by kernel_rfl) ?_
  refine gk_seq (by kernel_rfl) ?_
  refine gk_region (by kernel_rfl) ?_
  refine gl_pure 1 [0, 1] (K' := [(0, .slice A0 a0.length c0), (1, fv1)]) (by kernel_rfl) ?_
  refine gl_atE (by kernel_rfl) ?_
  refine ge_seq ?_
  refine gk_seq (by kernel_rfl) ?_
  refine gk_seq (by kernel_rfl) ?_
  refine gk_region (by kernel_rfl) ?_
  refine gl_pure 3 [0, 1, 10] (K' := [(0, .slice A0 a0.length c0), (1, fv1), (10, .bool (decide ((a0.length : Int) < 2)))]) (by kernel_rfl) ?_
  refine gl_atE (by kernel_rfl) ?_
  refine ge_seq ?_
  refine gk_cond (b := (decide ((a0.length : Int) < 2))) (by kernel_rfl) (by kernel_rfl) (fun hc1 => ?_) (fun hc1 => ?_)
  · have hr := cond_t hc1 hr
    refine gk_seq (by kernel_rfl) ?_
    refine gk_region (by kernel_rfl) ?_
    refine gl_pure 2 [4] (K' := [(4, .slice A0 a0.length c0)]) (by kernel_rfl) ?_
    refine gl_atE (by kernel_rfl) ?_
    refine ge_seq ?_
    refine gk_ret (by kernel_rfl) ?_
    refine ge_seq_ret ?_
    obtain rfl := some_inj hr
    exact ge_result trivial (ResOk.tmp (by kernel_rfl) ResOk.nil) (Imm.refl _) ⟨A0, c0, C0, hO0, rfl, rfl⟩
  · have hr := cond_f hc1 hr
    refine gk_skip (by kernel_rfl) ?_
    refine ge_seq ?_
    refine gk_seq (by kernel_rfl) ?_
    refine gk_seq (by kernel_rfl) ?_
    refine gk_region (by kernel_rfl) ?_
    refine gl_pure 1 [0, 1, 5] (K' := [(0, .slice A0 a0.length c0), (1, fv1), (5, .int .i64 1)]) (by kernel_rfl) ?_
    refine gl_atE (by kernel_rfl) ?_
    refine ge_seq ?_
    obtain ⟨r6, hl7, hr⟩ := bind_some hr
    refine gk_join (fun t I' L' => ∃ r14, r6 = Sum.inl r14 ∧ I ≤ I' ∧ C0 ++ L = L' ∧ Knows 66 [(0, .slice A0 a0.length c0)] t) ?_ ?_
    · refine gk_block (by kernel_rfl) ?_
      refine gk_pick [0, 1, 5] (K' := [(0, .slice A0 a0.length c0), (1, fv1), (5, .int .i64 1)]) (by kernel_rfl) ?_
      intro t hK
      refine gc_loop (slices_CompactFunc_f80_l18 a0 a1) (fun s8 t I' L' => I ≤ I' ∧ C0 ++ L = L' ∧ Knows 66 [(0, .slice A0 a0.length c0), (1, fv1), (5, .int .i64 s8)] t) (by kernel_rfl) ?_ hl7 ⟨(Imm.refl _), rfl, hK⟩
      rintro s8 o9 t I13 L' hb10 ⟨hI11, rfl, hK12⟩
      unfold slices_CompactFunc_f80_l18 at hb10
      refine gk_at hK12 ?_
      refine gk_seq (by kernel_rfl) ?_
      refine gk_seq (by kernel_rfl) ?_
      refine gk_region (by kernel_rfl) ?_
      refine gl_pure 4 [0, 1, 5, 15] (K' := [(0, .slice A0 a0.length c0), (1, fv1), (5, .int .i64 s8), (15, .bool (decide (s8 < (a0.length : Int))))]) (by kernel_rfl) ?_
      refine gl_atE (by kernel_rfl) ?_
      refine ge_seq ?_
      refine gk_cond (b := (decide (s8 < (a0.length : Int)))) (by kernel_rfl) (by kernel_rfl) (fun hc20 => ?_) (fun hc20 => ?_)
      · have hb10 := cond_t hc20 hb10
        refine gk_skip (by kernel_rfl) ?_
        refine ge_seq ?_
        refine gk_seq (by kernel_rfl) ?_
        refine gk_block (by kernel_rfl) ?_
        refine gk_seq (by kernel_rfl) ?_
        refine gk_draw 10 [(0, true), (1, true), (2, true), (3, true), (4, true), (5, true), (6, true), (7, true), (8, true), (9, true)] (C0 ++ []) (List.forall_mem_append.2 ⟨fun q hq => (List.mem_append_left _ hq), (fun p hp => by cases hp)⟩) (by kernel_rfl) (by kernel_rfl) (by kernel_rfl) ?_ (by kernel_rfl)
        refine gd_pure 3 [0, 1, 5, 18, 19, 20] (K' := [(0, .slice A0 a0.length c0), (1, fv1), (5, .int .i64 s8), (18, fv1), (19, .slice A0 a0.length c0), (20, .int .i64 s8)]) (s' := [(3, true), (4, true), (5, true), (6, true), (7, true), (8, true), (9, true)]) (CC.refl (List.forall_mem_append.2 ⟨fun q hq => (List.mem_append_left _ hq), (fun p hp => by cases hp)⟩)) (by kernel_rfl) ?_
        obtain ⟨x21, hx22, hb10⟩ := bind_some hb10
        obtain ⟨p23, cs24, hR25, hA26, ha27⟩ := OwnS.ixAt hx22 (hO0.mono hI11)
        have hi28 := ix_some hx22
        obtain ⟨A29, n30, rfl, hf31⟩ := sl_open hR25
        refine gd_q (v := .pointer (some p23)) (by kernel_rfl) (by kernel_rfl) (CC.refl (List.forall_mem_append.2 ⟨fun q hq => (List.mem_append_left _ hq), (fun p hp => by cases hp)⟩)) (fun I' L' T hC kk => gl_indexAddrF (c := c0) (T' := 22) (e := 36) (xs := (.tmp 19)) (xi := (.tmp 20)) (kd := .i64) ha27 hi28.1 hi28.2.1 (by kernel_rfl) (by kernel_rfl) (by kernel_rfl) (by kernel_rfl) (by kernel_rfl) kk) ?_
        refine gd_q (v := .slice A29 x21.length n30) (by kernel_rfl) (by kernel_rfl) (CC.refl (List.forall_mem_append.2 ⟨fun q hq => (List.mem_append_left _ hq), (fun p hp => by cases hp)⟩)) (fun I' L' T hC kk => gl_loadO (T' := 36) (xp := (.tmp 21)) (p := p23) (c := .slice A29 x21.length n30) (n := 1) (by kernel_rfl) (by kernel_rfl) (by kernel_rfl) (by kernel_rfl) (hA26 _ _ (fun q hq => hC.sub _ (List.mem_append_left _ hq))) kk) ?_
        refine gd_pure 3 [0, 1, 5, 18, 22, 23, 25] (K' := [(0, .slice A0 a0.length c0), (1, fv1), (5, .int .i64 s8), (18, fv1), (22, .slice A29 x21.length n30), (23, .slice A0 a0.length c0), (25, .int .i64 (IntKind.wrap .i64 (s8 - 1)))]) (s' := [(8, true), (9, true)]) (CC.refl (List.forall_mem_append.2 ⟨fun q hq => (List.mem_append_left _ hq), (fun p hp => by cases hp)⟩)) (by kernel_rfl) ?_
        obtain ⟨x32, hx33, hb10⟩ := bind_some hb10
        obtain ⟨p34, cs35, hR36, hA37, ha38⟩ := OwnS.ixAt hx33 (hO0.mono hI11)
        have hi39 := ix_some hx33
        obtain ⟨A40, n41, rfl, hf42⟩ := sl_open hR36
        refine gd_q (v := .pointer (some p34)) (by kernel_rfl) (by kernel_rfl) (CC.refl (List.forall_mem_append.2 ⟨fun q hq => (List.mem_append_left _ hq), (fun p hp => by cases hp)⟩)) (fun I' L' T hC kk => gl_indexAddrF (c := c0) (T' := 22) (e := 36) (xs := (.tmp 23)) (xi := (.tmp 25)) (kd := .i64) ha38 hi39.1 hi39.2.1 (by kernel_rfl) (by kernel_rfl) (by kernel_rfl) (by kernel_rfl) (by kernel_rfl) kk) ?_
        refine gd_q (v := .slice A40 x32.length n41) (by kernel_rfl) (by kernel_rfl) (CC.refl (List.forall_mem_append.2 ⟨fun q hq => (List.mem_append_left _ hq), (fun p hp => by cases hp)⟩)) (fun I' L' T hC kk => gl_loadO (T' := 36) (xp := (.tmp 26)) (p := p34) (c := .slice A40 x32.length n41) (n := 1) (by kernel_rfl) (by kernel_rfl) (by kernel_rfl) (by kernel_rfl) (hA37 _ _ (fun q hq => hC.sub _ (List.mem_append_left _ hq))) kk) ?_
        refine gd_done ?_
        obtain ⟨y44, hx43, hb10⟩ := bind_some hb10
        refine gl_callvQ (by kernel_rfl) ((hf1.mono hI11).out _ (Imm.refl _) _ _ _ hx43 _ _ _ _ hf31 hf42 _) ?_
        refine gl_atE (by kernel_rfl) ?_
        refine ge_seq ?_
        refine gk_cond (b := y44) (by kernel_rfl) (by kernel_rfl) (fun hc45 => ?_) (fun hc45 => ?_)
        · have hb10 := cond_t hc45 hb10
          refine gk_seq (by kernel_rfl) ?_
          refine gk_region (by kernel_rfl) ?_
          refine gl_pure 2 [0, 1, 5, 29, 30] (K' := [(0, .slice A0 a0.length c0), (1, fv1), (5, .int .i64 s8), (29, .slice A0 a0.length c0), (30, .int .i64 s8)]) (by kernel_rfl) ?_
          obtain ⟨l47, hx46, hb10⟩ := bind_some hb10
          have hlc48 := OwnS.lenc (hO0.mono hI11)
          have hV49 := OwnS.view hx46 (hO0.mono hI11)
          refine gl_sliceT (A := A0) (c := c0) (n := 1) (T' := 22) (e := 36) (xs := (.tmp 29)) (lo := (some (.tmp 30))) hx46 hlc48 (by kernel_rfl) (by kernel_rfl) (by kernel_rfl) (by kernel_rfl) (by kernel_rfl) ?_
          refine gl_pure 1 [0, 1, 5, 6] (K' := [(0, .slice A0 a0.length c0), (1, fv1), (5, .int .i64 s8), (6, .slice (viewA A0 s8 1 c0) l47.length (c0 - (s8).toNat))]) (by kernel_rfl) ?_
          refine gl_atE (by kernel_rfl) ?_
          refine ge_seq ?_
          refine gk_seq (by kernel_rfl) ?_
          refine gk_seq (by kernel_rfl) ?_
          refine gk_region (by kernel_rfl) ?_
          refine gl_pure 1 [0, 1, 5, 6, 7] (K' := [(0, .slice A0 a0.length c0), (1, fv1), (5, .int .i64 s8), (6, .slice (viewA A0 s8 1 c0) l47.length (c0 - (s8).toNat)), (7, .int .i64 1)]) (by kernel_rfl) ?_
          refine gl_atE (by kernel_rfl) ?_
          refine ge_seq ?_
          obtain ⟨r56, hl57, hb10⟩ := bind_some hb10
          refine gk_join (fun t I' L' => ∃ C67, OwnS (Kd.sl kS79) 36 I' A0 c0 r56.1 C67 ∧ I13 ≤ I' ∧ C67 ++ L = L' ∧ Knows 66 [(0, .slice A0 r56.1.length c0), (5, .int .i64 r56.2)] t) ?_ ?_
          · refine gk_block (by kernel_rfl) ?_
            refine gk_pick [0, 1, 5, 6, 7] (K' := [(0, .slice A0 a0.length c0), (1, fv1), (5, .int .i64 s8), (6, .slice (viewA A0 s8 1 c0) l47.length (c0 - (s8).toNat)), (7, .int .i64 1)]) (by kernel_rfl) ?_
            intro t hK
            refine gc_loop (slices_CompactFunc_f80_l71 a1 s8 l47) (fun s58 t I' L' => ∃ C62, OwnS (Kd.sl kS79) 36 I' A0 c0 s58.1 C62 ∧ I13 ≤ I' ∧ C62 ++ L = L' ∧ Knows 66 [(0, .slice A0 s58.1.length c0), (1, fv1), (5, .int .i64 s58.2.1), (6, .slice (viewA A0 s8 1 c0) l47.length (c0 - (s8).toNat)), (7, .int .i64 s58.2.2)] t) (by kernel_rfl) ?_ hl57 ⟨C0, (hO0.mono hI11), (Imm.refl _), rfl, hK⟩
            rintro s58 o59 t I65 L' hb60 ⟨C62, hO63, hI61, rfl, hK64⟩
            unfold slices_CompactFunc_f80_l71 at hb60
            refine gk_at hK64 ?_
            refine gk_seq (by kernel_rfl) ?_
            refine gk_seq (by kernel_rfl) ?_
            refine gk_region (by kernel_rfl) ?_
            refine gl_pure 4 [0, 1, 5, 6, 7, 35] (K' := [(0, .slice A0 s58.1.length c0), (1, fv1), (5, .int .i64 s58.2.1), (6, .slice (viewA A0 s8 1 c0) l47.length (c0 - (s8).toNat)), (7, .int .i64 s58.2.2), (35, .bool (decide (s58.2.2 < (l47.length : Int))))]) (by kernel_rfl) ?_
            refine gl_atE (by kernel_rfl) ?_
            refine ge_seq ?_
            refine gk_cond (b := (decide (s58.2.2 < (l47.length : Int)))) (by kernel_rfl) (by kernel_rfl) (fun hc73 => ?_) (fun hc73 => ?_)
            · have hb60 := cond_t hc73 hb60
              refine gk_skip (by kernel_rfl) ?_
              refine ge_seq ?_
              refine gk_seq (by kernel_rfl) ?_
              refine gk_block (by kernel_rfl) ?_
              refine gk_seq (by kernel_rfl) ?_
              refine gk_draw 10 [(0, true), (1, true), (2, true), (3, true), (4, true), (5, true), (6, true), (7, true), (8, true), (9, true)] (C62 ++ []) (List.forall_mem_append.2 ⟨fun q hq => (List.mem_append_left _ hq), (fun p hp => by cases hp)⟩) (by kernel_rfl) (by kernel_rfl) (by kernel_rfl) ?_ (by kernel_rfl)
              refine gd_pure 3 [0, 1, 5, 6, 7, 38, 39, 40] (K' := [(0, .slice A0 s58.1.length c0), (1, fv1), (5, .int .i64 s58.2.1), (6, .slice (viewA A0 s8 1 c0) l47.length (c0 - (s8).toNat)), (7, .int .i64 s58.2.2), (38, fv1), (39, .slice (viewA A0 s8 1 c0) l47.length (c0 - (s8).toNat)), (40, .int .i64 s58.2.2)]) (s' := [(3, true), (4, true), (5, true), (6, true), (7, true), (8, true), (9, true)]) (CC.refl (List.forall_mem_append.2 ⟨fun q hq => (List.mem_append_left _ hq), (fun p hp => by cases hp)⟩)) (by kernel_rfl) ?_
              obtain ⟨x74, hx75, hb60⟩ := bind_some hb60
              obtain ⟨p76, cs77, hR78, hA79, ha80, hi81⟩ := OwnS.ixV hx75 hV49 hO63
              obtain ⟨A82, n83, rfl, hf84⟩ := sl_open hR78
              refine gd_q (v := .pointer (some p76)) (by kernel_rfl) (by kernel_rfl) (CC.refl (List.forall_mem_append.2 ⟨fun q hq => (List.mem_append_left _ hq), (fun p hp => by cases hp)⟩)) (fun I' L' T hC kk => gl_indexAddrF (c := (c0 - (s8).toNat)) (T' := 22) (e := 36) (xs := (.tmp 39)) (xi := (.tmp 40)) (kd := .i64) ha80 hi81.1 hi81.2 (by kernel_rfl) (by kernel_rfl) (by kernel_rfl) (by kernel_rfl) (by kernel_rfl) kk) ?_
              refine gd_q (v := .slice A82 x74.length n83) (by kernel_rfl) (by kernel_rfl) (CC.refl (List.forall_mem_append.2 ⟨fun q hq => (List.mem_append_left _ hq), (fun p hp => by cases hp)⟩)) (fun I' L' T hC kk => gl_loadO (T' := 36) (xp := (.tmp 41)) (p := p76) (c := .slice A82 x74.length n83) (n := 1) (by kernel_rfl) (by kernel_rfl) (by kernel_rfl) (by kernel_rfl) (hA79 _ _ (fun q hq => hC.sub _ (List.mem_append_left _ hq))) kk) ?_
              refine gd_pure 3 [0, 1, 5, 6, 7, 38, 42, 43, 45] (K' := [(0, .slice A0 s58.1.length c0), (1, fv1), (5, .int .i64 s58.2.1), (6, .slice (viewA A0 s8 1 c0) l47.length (c0 - (s8).toNat)), (7, .int .i64 s58.2.2), (38, fv1), (42, .slice A82 x74.length n83), (43, .slice (viewA A0 s8 1 c0) l47.length (c0 - (s8).toNat)), (45, .int .i64 (IntKind.wrap .i64 (s58.2.2 - 1)))]) (s' := [(8, true), (9, true)]) (CC.refl (List.forall_mem_append.2 ⟨fun q hq => (List.mem_append_left _ hq), (fun p hp => by cases hp)⟩)) (by kernel_rfl) ?_
              obtain ⟨x85, hx86, hb60⟩ := bind_some hb60
              obtain ⟨p87, cs88, hR89, hA90, ha91, hi92⟩ := OwnS.ixV hx86 hV49 hO63
              obtain ⟨A93, n94, rfl, hf95⟩ := sl_open hR89
              refine gd_q (v := .pointer (some p87)) (by kernel_rfl) (by kernel_rfl) (CC.refl (List.forall_mem_append.2 ⟨fun q hq => (List.mem_append_left _ hq), (fun p hp => by cases hp)⟩)) (fun I' L' T hC kk => gl_indexAddrF (c := (c0 - (s8).toNat)) (T' := 22) (e := 36) (xs := (.tmp 43)) (xi := (.tmp 45)) (kd := .i64) ha91 hi92.1 hi92.2 (by kernel_rfl) (by kernel_rfl) (by kernel_rfl) (by kernel_rfl) (by kernel_rfl) kk) ?_
              refine gd_q (v := .slice A93 x85.length n94) (by kernel_rfl) (by kernel_rfl) (CC.refl (List.forall_mem_append.2 ⟨fun q hq => (List.mem_append_left _ hq), (fun p hp => by cases hp)⟩)) (fun I' L' T hC kk => gl_loadO (T' := 36) (xp := (.tmp 46)) (p := p87) (c := .slice A93 x85.length n94) (n := 1) (by kernel_rfl) (by kernel_rfl) (by kernel_rfl) (by kernel_rfl) (hA90 _ _ (fun q hq => hC.sub _ (List.mem_append_left _ hq))) kk) ?_
              refine gd_done ?_
              obtain ⟨y97, hx96, hb60⟩ := bind_some hb60
              refine gl_callvQ (by kernel_rfl) ((hf1.mono (Imm.trans hI11 hI61)).out _ (Imm.refl _) _ _ _ hx96 _ _ _ _ hf84 hf95 _) ?_
              refine gl_pure 1 [0, 1, 5, 6, 7, 49] (K' := [(0, .slice A0 s58.1.length c0), (1, fv1), (5, .int .i64 s58.2.1), (6, .slice (viewA A0 s8 1 c0) l47.length (c0 - (s8).toNat)), (7, .int .i64 s58.2.2), (49, .bool (!y97))]) (by kernel_rfl) ?_
              refine gl_atE (by kernel_rfl) ?_
              refine ge_seq ?_
              obtain ⟨j98, hj99, hb60⟩ := bind_some hb60
              refine gk_join (fun t I' L' => ∃ C101, OwnS (Kd.sl kS79) 36 I' A0 c0 j98.1 C101 ∧ I65 ≤ I' ∧ C101 ++ L = L' ∧ Knows 66 [(0, .slice A0 j98.1.length c0), (1, fv1), (5, .int .i64 j98.2), (6, .slice (viewA A0 s8 1 c0) l47.length (c0 - (s8).toNat)), (7, .int .i64 s58.2.2)] t) ?_ ?_
              · refine gk_cond (b := (!y97)) (by kernel_rfl) (by kernel_rfl) (fun hc105 => ?_) (fun hc105 => ?_)
                · have hj99 := cond_t hc105 hj99
                  refine gk_seq (by kernel_rfl) ?_
                  refine gk_region (by kernel_rfl) ?_
                  refine gl_pure 4 [0, 1, 5, 6, 7, 50, 51, 52, 53] (K' := [(0, .slice A0 s58.1.length c0), (1, fv1), (5, .int .i64 s58.2.1), (6, .slice (viewA A0 s8 1 c0) l47.length (c0 - (s8).toNat)), (7, .int .i64 s58.2.2), (50, .slice A0 s58.1.length c0), (51, .int .i64 s58.2.1), (52, .slice (viewA A0 s8 1 c0) l47.length (c0 - (s8).toNat)), (53, .int .i64 s58.2.2)]) (by kernel_rfl) ?_
                  obtain ⟨x106, hx107, hj99⟩ := bind_some hj99
                  obtain ⟨p108, cs109, hR110, hA111, ha112, hi113⟩ := OwnS.ixV hx107 hV49 hO63
                  obtain ⟨A114, n115, rfl, hf116⟩ := sl_open hR110
                  refine gl_indexAddrF (c := (c0 - (s8).toNat)) (T' := 22) (e := 36) (xs := (.tmp 52)) (xi := (.tmp 53)) (kd := .i64) ha112 hi113.1 hi113.2 (by kernel_rfl) (by kernel_rfl) (by kernel_rfl) (by kernel_rfl) (by kernel_rfl) ?_
                  refine gl_loadO (T' := 36) (xp := (.tmp 54)) (p := p108) (c := .slice A114 x106.length n115) (n := 1) (by kernel_rfl) (by kernel_rfl) (by kernel_rfl) (by kernel_rfl) (hA111 _ _ (fun q hq => (List.mem_append_left _ hq))) ?_
                  obtain ⟨x117, hx118, hj99⟩ := bind_some hj99
                  refine gl_indexAddrW (d := (Kd.sl kS79)) (c := c0) (T' := 22) (e := 36) (xs := (.tmp 50)) (xi := (.tmp 51)) (kd := .i64) hx118 hO63 (Upd.selfC _ _) (by kernel_rfl) (by kernel_rfl) (by kernel_rfl) (by kernel_rfl) (by kernel_rfl) (fun p119 cs120 hR121 hA122 hp128 => ?_)
                  obtain ⟨A125, n126, rfl, hf127⟩ := sl_open hR121
                  have hl131 : s58.1.length = (lset s58.1 s58.2.1 x106).length := by simp [lset]
                  refine gl_storeE (d := (Kd.sl kS79)) (T' := 36) (xp := (.tmp 56)) (xv := (.tmp 55)) (v := .slice A114 x106.length n115) (off := 0) (y := x106) (fun X => X ++ L) hx118 hO63 (fun X => (Upd.head _ X _)) hp128 (by kernel_rfl) (by kernel_rfl) (by kernel_rfl) (by kernel_rfl) (by kernel_rfl) (by kernel_rfl) (fun cs h => by obtain ⟨A', c', rfl, _⟩ := sl_open h; exact ⟨_, _, rfl, hf116⟩) (by kernel_rfl) (fun C129 hO130 => ?_)
                  try rw [hl131]
                  refine gl_atE (by kernel_rfl) ?_
                  refine ge_seq ?_
                  refine gk_region (by kernel_rfl) ?_
                  refine gl_pure 3 [0, 1, 5, 6, 7] (K' := [(0, .slice A0 (lset s58.1 s58.2.1 x106).length c0), (1, fv1), (5, .int .i64 (IntKind.wrap .i64 (s58.2.1 + 1))), (6, .slice (viewA A0 s8 1 c0) l47.length (c0 - (s8).toNat)), (7, .int .i64 s58.2.2)]) (by kernel_rfl) ?_
                  refine gl_atE (by kernel_rfl) ?_
                  obtain rfl := some_inj hj99
                  exact ge_mid fun t ht => ⟨C129, hO130, (Imm.refl _), rfl, ht.pick (l := [0, 1, 5, 6, 7]) (by kernel_rfl)⟩
                · have hj99 := cond_f hc105 hj99
                  refine gk_skip (by kernel_rfl) ?_
                  obtain rfl := some_inj hj99
                  exact ge_mid fun t ht => ⟨C62, hO63, (Imm.refl _), rfl, ht.pick (l := [0, 1, 5, 6, 7]) (by kernel_rfl)⟩
              · rintro t I104 L' ⟨C101, hO102, hI100, rfl, hK103⟩
                refine ge_at hK103 ?_
                refine ge_block_normal ?_
                refine ge_seq ?_
                refine gk_region (by kernel_rfl) ?_
                refine gl_pure 3 [0, 1, 5, 6, 7] (K' := [(0, .slice A0 j98.1.length c0), (1, fv1), (5, .int .i64 j98.2), (6, .slice (viewA A0 s8 1 c0) l47.length (c0 - (s8).toNat)), (7, .int .i64 (IntKind.wrap .i64 (s58.2.2 + 1)))]) (by kernel_rfl) ?_
                refine gl_atE (by kernel_rfl) ?_
                obtain rfl := some_inj hb60
                exact ge_round fun t ht => ⟨C101, hO102, (Imm.trans hI61 hI100), rfl, ht.pick (l := [0, 1, 5, 6, 7]) (by kernel_rfl)⟩
            · have hb60 := cond_f hc73 hb60
              refine gk_exit (by kernel_rfl) ?_
              refine ge_seq_exit ?_
              obtain rfl := some_inj hb60
              refine ge_round_out (fun hrr => ?_) (by intro h; cases h)
              obtain rfl := hrr
              refine ge_block_hit (by kernel_rfl) ?_
              exact ge_mid fun t ht => ⟨C62, hO63, hI61, rfl, ht.pick (l := [0, 5]) (by kernel_rfl)⟩
          · rintro t I70 L' ⟨C67, hO68, hI66, rfl, hK69⟩
            refine ge_at hK69 ?_
            refine ge_seq ?_
            refine gk_seq (by kernel_rfl) ?_
            refine gk_region (by kernel_rfl) ?_
            refine gl_pure 2 [0, 5, 59, 60] (K' := [(0, .slice A0 r56.1.length c0), (5, .int .i64 r56.2), (59, .slice A0 r56.1.length c0), (60, .int .i64 r56.2)]) (by kernel_rfl) ?_
            obtain ⟨l133, hx132, hb10⟩ := bind_some hb10
            have hlc134 := OwnS.lenc hO68
            have hV135 := OwnS.view hx132 hO68
            refine gl_sliceT (A := A0) (c := c0) (n := 1) (T' := 22) (e := 36) (xs := (.tmp 59)) (lo := (some (.tmp 60))) hx132 hlc134 (by kernel_rfl) (by kernel_rfl) (by kernel_rfl) (by kernel_rfl) (by kernel_rfl) ?_
            obtain ⟨zs136, hz137, hb10⟩ := bind_some hb10
            have hl140 : r56.1.length = zs136.length := (clrv_length hz137).symm
            refine gl_clearV (d := (Kd.sl kS79)) (c' := (c0 - (r56.2).toNat)) (t := 22) (e := 36) (x := (.tmp 61)) (zc := #[.slice none 0 0]) (fun X => X ++ L) hz137 hV135 hO68 (fun X => (Upd.head _ X _)) (by kernel_rfl) (by kernel_rfl) (by kernel_rfl) (by kernel_rfl) (by kernel_rfl) (by kernel_rfl) ⟨_, _, rfl, (RepS.nil _ _)⟩ (fun C138 hO139 => ?_)
            try rw [hl140]
            refine gl_atE (by kernel_rfl) ?_
            refine ge_seq ?_
            refine gk_seq (by kernel_rfl) ?_
            refine gk_region (by kernel_rfl) ?_
            refine gl_pure 2 [62, 63] (K' := [(62, .slice A0 zs136.length c0), (63, .int .i64 r56.2)]) (by kernel_rfl) ?_
            obtain ⟨l142, hx141, hb10⟩ := bind_some hb10
            have hlc143 := OwnS.lenc hO139
            have hd144 := lx_take hx141
            refine gl_sliceH (A := A0) (c := c0) (n := 1) (T' := 22) (e := 36) (xs := (.tmp 62)) (lo := none) (hi := (some (.tmp 63))) hx141 hlc143 (by kernel_rfl) (by kernel_rfl) (by kernel_rfl) (by kernel_rfl) (by kernel_rfl) (by kernel_rfl) ?_
            refine gl_pure 1 [4] (K' := [(4, .slice A0 l142.length c0)]) (by kernel_rfl) ?_
            refine gl_atE (by kernel_rfl) ?_
            refine ge_seq ?_
            refine gk_ret (by kernel_rfl) ?_
            refine ge_block_ret ?_
            refine ge_seq_ret ?_
            obtain rfl := some_inj hb10
            refine ge_round_out (fun hrr => ?_) (by intro h; cases h)
            obtain rfl := hrr
            refine ge_block_ret ?_
            refine ge_seq_ret ?_
            refine ge_seq_ret ?_
            obtain rfl := some_inj hr
            exact ge_result trivial (ResOk.tmp (by kernel_rfl) ResOk.nil) (Imm.trans hI11 hI66) ⟨A0, c0, C138, (OwnS.head hd144 hO139), rfl, rfl⟩
        · have hb10 := cond_f hc45 hb10
          refine gk_skip (by kernel_rfl) ?_
          refine ge_block_normal ?_
          refine ge_seq ?_
          refine gk_region (by kernel_rfl) ?_
          refine gl_pure 3 [0, 1, 5] (K' := [(0, .slice A0 a0.length c0), (1, fv1), (5, .int .i64 (IntKind.wrap .i64 (s8 + 1)))]) (by kernel_rfl) ?_
          refine gl_atE (by kernel_rfl) ?_
          obtain rfl := some_inj hb10
          exact ge_round fun t ht => ⟨hI11, rfl, ht.pick (l := [0, 1, 5]) (by kernel_rfl)⟩
      · have hb10 := cond_f hc20 hb10
        refine gk_exit (by kernel_rfl) ?_
        refine ge_seq_exit ?_
        obtain rfl := some_inj hb10
        refine ge_round_out (fun hrr => ?_) (by intro h; cases h)
        obtain rfl := hrr
        refine ge_block_hit (by kernel_rfl) ?_
        exact ge_mid fun t ht => ⟨_, rfl, hI11, rfl, ht.pick (l := [0]) (by kernel_rfl)⟩
    · rintro t I17 L' ⟨r14, rfl, hI15, rfl, hK16⟩
      refine ge_at hK16 ?_
      refine ge_seq ?_
      refine gk_seq (by kernel_rfl) ?_
      refine gk_region (by kernel_rfl) ?_
      refine gl_pure 2 [4] (K' := [(4, .slice A0 a0.length c0)]) (by kernel_rfl) ?_
      refine gl_atE (by kernel_rfl) ?_
      refine ge_seq ?_
      refine gk_ret (by kernel_rfl) ?_
      obtain rfl := some_inj hr
      exact ge_result trivial (ResOk.tmp (by kernel_rfl) ResOk.nil) hI15 ⟨A0, c0, C0, (hO0.mono hI15), rfl, rfl⟩
/-! 81 nflog_Sorted_1  -/
noncomputable def nflog_Sorted_1 (a0 : List S79) (a1 : List S79) : Option Bool :=
  Option.bind (labels_Compare a0 a1) fun (y1 : Int) =>
  some (y1 == 0)
theorem nflog_Sorted_1_walk {a0 : List S79} {A0_0 : Option Addr} {n0_0 : Nat} {a1 : List S79} {A1_0 : Option Addr} {n1_0 : Nat} {I : Imm} {r : Bool}  (hf0_0 : RepS kS79 I A0_0 n0_0 a0)  (hf1_0 : RepS kS79 I A1_0 n1_0 a1) (hr : nflog_Sorted_1 a0 a1 = some r) (L : Own) :
    CallsTo Tryd.prog 81 #[.slice A0_0 a0.length n0_0, .slice A1_0 a1.length n1_0] I L (fun v I' L' => v = .bool r ∧ L = L') := by
  unfold nflog_Sorted_1 at hr
  refine callsTo_body (N := 9) Tryd.func81 (by kernel_rfl) (by kernel_rfl) (by kernel_rfl) ?_
  refine gk_pick [0, 1] (K' := [(0, .slice A0_0 a0.length n0_0), (1, .slice A1_0 a1.length n1_0)]) (by kernel_rfl) ?_
  refine gk_seq (by kernel_rfl) ?_
  refine gk_region (by kernel_rfl) ?_
  refine gl_pure 1 [0, 1] (K' := [(0, .slice A0_0 a0.length n0_0), (1, .slice A1_0 a1.length n1_0)]) (by kernel_rfl) ?_
  refine gl_atE (by kernel_rfl) ?_
  refine ge_seq ?_
  refine gk_seq (by kernel_rfl) ?_
  refine gk_region (by kernel_rfl) ?_
  refine gl_pure 2 [5, 6] (K' := [(5, .slice A0_0 a0.length n0_0), (6, .slice A1_0 a1.length n1_0)]) (by kernel_rfl) ?_
  obtain ⟨y1, hx2, hr⟩ := bind_some hr
  refine gl_callQ (by kernel_rfl) (labels_Compare_walk (r := y1) hf0_0 hf1_0 hx2 _) ?_
  refine gl_pure 2 [4] (K' := [(4, .bool (y1 == 0))]) (by kernel_rfl) ?_
  refine gl_atE (by kernel_rfl) ?_
  refine ge_seq ?_
  refine gk_ret (by kernel_rfl) ?_
  obtain rfl := some_inj hr
  exact ge_result trivial (ResOk.tmp (by kernel_rfl) ResOk.nil) (Imm.refl _) ⟨rfl, rfl⟩
theorem nflog_Sorted_1_impl123  {I : Imm}  : Fn123 I (.func (.func 81) #[] #[]) nflog_Sorted_1 := ⟨fun I' hI x0 x1 r hr A0_0 c0_0 A1_0 c1_0 h0_0 h1_0 L => ⟨81, #[], #[], rfl, ⟨_, Tryd.func81, by kernel_rfl, by kernel_rfl⟩, by
  simp only [List.append_toArray, List.nil_append, List.append_nil, Array.append_empty, Array.empty_append, List.push_append_toArray, List.cons_append]
  exact nflog_Sorted_1_walk  h0_0 h1_0  hr L⟩⟩
/-! 36 nflog_Sorted  -/
noncomputable def nflog_Sorted (a0 : List (List S79)) : Option ((List (List S79)) × Int) :=
  Option.bind (nflog_right a0) fun (y1 : Bool) =>
  bif (!y1) then
  (some ([], 41))
  else
  (Option.bind (nflog_sets a0) fun (y4 : (List (List S79))) =>
    Option.bind (sortO (fun l => l.length ≤ 2147483648) labels_Compare y4) fun (zs13 : List (List S79)) =>
    Option.bind (slices_CompactFunc_f80 zs13 nflog_Sorted_1) fun (y21 : (List (List S79))) =>
    some (y21, 0))
theorem nflog_Sorted_walk {a0 : List (List S79)} {A0_0 : Option Addr} {n0_0 : Nat} {I : Imm} {r : (List (List S79)) × Int} (hG : Gl I)  (hf0_0 : RepS (Kd.sl kS79) I A0_0 n0_0 a0) (hr : nflog_Sorted a0 = some r) (L : Own) :
    CallsTo Tryd.prog 36 #[.slice A0_0 a0.length n0_0] I L (fun v I' L' => ∃ A0 c0 C0, OwnS (Kd.sl kS79) 36 I' A0 c0 r.1 C0 ∧ v = .tuple #[.slice A0 r.1.length c0, .int .i64 r.2] ∧ C0 ++ L = L') := by
  unfold nflog_Sorted at hr
  refine callsTo_body (N := 14) Tryd.func36 (by kernel_rfl) (by kernel_rfl) (by kernel_rfl) ?_
  refine gk_pick [0] (K' := [(0, .slice A0_0 a0.length n0_0)]) (by kernel_rfl) ?_
  refine gk_seq (by kernel_rfl) ?_
  refine gk_region (by kernel_rfl) ?_
  refine gl_pure 2 [0] (K' := [(0, .slice A0_0 a0.length n0_0)]) (by kernel_rfl) ?_
  refine gl_atE (by kernel_rfl) ?_
  refine ge_seq ?_
  refine gk_seq (by kernel_rfl) ?_
  refine gk_seq (by kernel_rfl) ?_
  refine gk_region (by kernel_rfl) ?_
  refine gl_pure 1 [0, 5] (K' := [(0, .slice A0_0 a0.length n0_0), (5, .slice A0_0 a0.length n0_0)]) (by kernel_rfl) ?_
  obtain ⟨y1, hx2, hr⟩ := bind_some hr
  refine gl_callQ (by kernel_rfl) (nflog_right_walk (r := y1) hG hf0_0 hx2 _) ?_
  refine gl_pure 1 [0, 7] (K' := [(0, .slice A0_0 a0.length n0_0), (7, .bool (!y1))]) (by kernel_rfl) ?_
  refine gl_atE (by kernel_rfl) ?_
  refine ge_seq ?_
  refine gk_cond (b := (!y1)) (by kernel_rfl) (by kernel_rfl) (fun hc3 => ?_) (fun hc3 => ?_)
  · have hr := cond_t hc3 hr
    refine gk_seq (by kernel_rfl) ?_
    refine gk_region (by kernel_rfl) ?_
    refine gl_pure 2 [2, 3] (K' := [(2, .slice none 0 0), (3, .int .i64 41)]) (by kernel_rfl) ?_
    refine gl_atE (by kernel_rfl) ?_
    refine ge_seq ?_
    refine gk_ret (by kernel_rfl) ?_
    refine ge_seq_ret ?_
    obtain rfl := some_inj hr
    exact ge_result trivial (ResOk.tmp (by kernel_rfl) (ResOk.tmp (by kernel_rfl) ResOk.nil)) (Imm.refl _) ⟨none, 0, [], OwnS.nil _ _ _ _, rfl, rfl⟩
  · have hr := cond_f hc3 hr
    refine gk_skip (by kernel_rfl) ?_
    refine ge_seq ?_
    refine gk_seq (by kernel_rfl) ?_
    refine gk_region (by kernel_rfl) ?_
    refine gl_pure 1 [8] (K' := [(8, .slice A0_0 a0.length n0_0)]) (by kernel_rfl) ?_
    obtain ⟨y4, hx5, hr⟩ := bind_some hr
    refine gl_call (by kernel_rfl) (nflog_sets_walk (r := y4) hf0_0 hx5 _) ?_
    rintro v I6 L7 hI8 ⟨A9, c10, C11, hO12, rfl, rfl⟩
    refine gl_pure 1 [4] (K' := [(4, .slice A9 y4.length c10)]) (by kernel_rfl) ?_
    refine gl_atE (by kernel_rfl) ?_
    refine ge_seq ?_
    refine gk_seq (by kernel_rfl) ?_
    refine gk_region (by kernel_rfl) ?_
    refine gl_pure 1 [4, 10] (K' := [(4, .slice A9 y4.length c10), (10, .slice A9 y4.length c10)]) (by kernel_rfl) ?_
    obtain ⟨zs13, hz14, hr⟩ := bind_some hr
    have hl20 : y4.length = zs13.length := (sortO_length hz14).symm
    refine gl_call (by kernel_rfl) (slices_SortFunc_79_76_walk (a0 := y4) (A := A9) (c := c10) (C := C11) (r := zs13) hO12 hz14 _) ?_
    rintro v I17 L18 hI19 ⟨C15, hO16, rfl, rfl⟩
    try rw [hl20]
    refine gl_atE (by kernel_rfl) ?_
    refine ge_seq ?_
    refine gk_seq (by kernel_rfl) ?_
    refine gk_region (by kernel_rfl) ?_
    refine gl_pure 1 [12] (K' := [(12, .slice A9 zs13.length c10)]) (by kernel_rfl) ?_
    obtain ⟨y21, hx22, hr⟩ := bind_some hr
    refine gl_call (by kernel_rfl) (slices_CompactFunc_f80_walk (r := y21) (A0 := A9) (c0 := c10) (C0 := C15) (a0 := zs13) hO16 nflog_Sorted_1_impl123 hx22 _) ?_
    rintro v I23 L24 hI25 ⟨A26, c27, C28, hO29, rfl, rfl⟩
    refine gl_pure 2 [2, 3] (K' := [(2, .slice A26 y21.length c27), (3, .int .i64 0)]) (by kernel_rfl) ?_
    refine gl_atE (by kernel_rfl) ?_
    refine ge_seq ?_
    refine gk_ret (by kernel_rfl) ?_
    obtain rfl := some_inj hr
    exact ge_result trivial (ResOk.tmp (by kernel_rfl) (ResOk.tmp (by kernel_rfl) ResOk.nil)) (Imm.trans (Imm.trans hI8 hI19) hI25) ⟨A26, c27, C28, hO29, rfl, rfl⟩
/-! 29 tocsinlaw26_lent  -/
noncomputable def tocsinlaw26_lent_l28 (a0 : List (List S79)) : ((List (List S79)) × Int) → Option (((List (List S79)) × Int) ⊕ ((List (List S79)))) := fun s11 =>
  bif (decide (s11.2 < (a0.length : Int))) then
  (Option.bind (ix a0 s11.2) fun (x31 : List S79) =>
    Option.bind (app ([] : List S79) x31) fun (zs42 : List S79) =>
    Option.bind (app s11.1 [zs42]) fun (zs56 : List (List S79)) =>
    some (Sum.inl (zs56, (IntKind.wrap .i64 (s11.2 + 1)))))
  else
  (some (Sum.inr s11.1))
noncomputable def tocsinlaw26_lent (a0 : List (List S79)) : Option (List (List S79)) :=
  Option.bind (loopO (tocsinlaw26_lent_l28 a0) ([], 0)) fun (r9 : (List (List S79))) =>
  some r9
theorem tocsinlaw26_lent_walk {a0 : List (List S79)} {A0_0 : Option Addr} {n0_0 : Nat} {I : Imm} {r : (List (List S79))}  (hf0_0 : RepS (Kd.sl kS79) I A0_0 n0_0 a0) (hr : tocsinlaw26_lent a0 = some r) (L : Own) :
    CallsTo Tryd.prog 29 #[.slice A0_0 a0.length n0_0] I L (fun v I' L' => ∃ A0 c0 C0, OwnS (Kd.sl kS79) 36 I' A0 c0 r C0 ∧ v = .slice A0 r.length c0 ∧ C0 ++ L = L') := by
  unfold tocsinlaw26_lent at hr
  refine callsTo_body (N := 21) Tryd.func29 (by kernel_rfl) (by kernel_rfl) (by kernel_rfl) ?_
  refine gk_pick [0] (K' := [(0, .slice A0_0 a0.length n0_0)]) (by kernel_rfl) ?_
  refine gk_seq (by kernel_rfl) ?_
  refine gk_region (by kernel_rfl) ?_
  refine gl_pure 1 [0] (K' := [(0, .slice A0_0 a0.length n0_0)]) (by kernel_rfl) ?_
  refine gl_atE (by kernel_rfl) ?_
  refine ge_seq ?_
  refine gk_seq (by kernel_rfl) ?_
  refine gk_region (by kernel_rfl) ?_
  refine gl_pure 1 [0, 3] (K' := [(0, .slice A0_0 a0.length n0_0), (3, .slice none 0 0)]) (by kernel_rfl) ?_
  refine gl_atE (by kernel_rfl) ?_
  refine ge_seq ?_
  refine gk_seq (by kernel_rfl) ?_
  refine gk_seq (by kernel_rfl) ?_
  refine gk_region (by kernel_rfl) ?_
  refine gl_pure 3 [3, 7, 8, 9] (K' := [(3, .slice none 0 0), (7, .slice A0_0 a0.length n0_0), (8, .int .i64 (a0.length : Int)), (9, .int .i64 0)]) (by kernel_rfl) ?_
  refine gl_atE (by kernel_rfl) ?_
  refine ge_seq ?_
  obtain ⟨r9, hl10, hr⟩ := bind_some hr
  refine gk_join (fun t I' L' => ∃ A22 n23 C24, OwnS (Kd.sl kS79) 36 I' A22 n23 r9 C24 ∧ I ≤ I' ∧ C24 ++ L = L' ∧ Knows 21 [(3, .slice A22 r9.length n23)] t) ?_ ?_
  · refine gk_block (by kernel_rfl) ?_
    refine gk_pick [3, 7, 8, 9] (K' := [(3, .slice none 0 0), (7, .slice A0_0 a0.length n0_0), (8, .int .i64 (a0.length : Int)), (9, .int .i64 0)]) (by kernel_rfl) ?_
    intro t hK
    refine gc_loop (tocsinlaw26_lent_l28 a0) (fun s11 t I' L' => ∃ A15 n16 C17, OwnS (Kd.sl kS79) 36 I' A15 n16 s11.1 C17 ∧ I ≤ I' ∧ C17 ++ L = L' ∧ Knows 21 [(3, .slice A15 s11.1.length n16), (7, .slice A0_0 a0.length n0_0), (8, .int .i64 (a0.length : Int)), (9, .int .i64 s11.2)] t) (by kernel_rfl) ?_ hl10 ⟨none, 0, [], OwnS.nil _ _ _ _, (Imm.refl _), rfl, hK⟩
    rintro s11 o12 t I20 L' hb13 ⟨A15, n16, C17, hO18, hI14, rfl, hK19⟩
    unfold tocsinlaw26_lent_l28 at hb13
    refine gk_at hK19 ?_
    refine gk_seq (by kernel_rfl) ?_
    refine gk_region (by kernel_rfl) ?_
    refine gl_pure 1 [3, 7, 8, 9, 10] (K' := [(3, .slice A15 s11.1.length n16), (7, .slice A0_0 a0.length n0_0), (8, .int .i64 (a0.length : Int)), (9, .int .i64 s11.2), (10, .bool (decide (s11.2 < (a0.length : Int))))]) (by kernel_rfl) ?_
    refine gl_atE (by kernel_rfl) ?_
    refine ge_seq ?_
    refine gk_seq (by kernel_rfl) ?_
    refine gk_cond (b := (decide (s11.2 < (a0.length : Int)))) (by kernel_rfl) (by kernel_rfl) (fun hc30 => ?_) (fun hc30 => ?_)
    · have hb13 := cond_t hc30 hb13
      refine gk_skip (by kernel_rfl) ?_
      refine ge_seq ?_
      refine gk_seq (by kernel_rfl) ?_
      refine gk_block (by kernel_rfl) ?_
      refine gk_seq (by kernel_rfl) ?_
      refine gk_region (by kernel_rfl) ?_
      obtain ⟨x31, hx32, hb13⟩ := bind_some hb13
      obtain ⟨p33, cs34, hR35, hA36, ha37⟩ := RepS.ixAt hx32 (hf0_0.mono hI14)
      have hi38 := ix_some hx32
      obtain ⟨A39, n40, rfl, hf41⟩ := sl_open hR35
      refine gl_indexAddrF (c := n0_0) (T' := 22) (e := 36) (xs := (.tmp 7)) (xi := (.tmp 9)) (kd := .i64) ha37 hi38.1 hi38.2.1 (by kernel_rfl) (by kernel_rfl) (by kernel_rfl) (by kernel_rfl) (by kernel_rfl) ?_
      refine gl_load (T' := 36) (xp := (.tmp 11)) (p := p33) (c := .slice A39 x31.length n40) (n := 1) (by kernel_rfl) (by kernel_rfl) (by kernel_rfl) (by kernel_rfl) hA36 ?_
      refine gl_pure 1 [3, 5, 7, 8, 9] (K' := [(3, .slice A15 s11.1.length n16), (5, .slice A39 x31.length n40), (7, .slice A0_0 a0.length n0_0), (8, .int .i64 (a0.length : Int)), (9, .int .i64 s11.2)]) (by kernel_rfl) ?_
      refine gl_atE (by kernel_rfl) ?_
      refine ge_seq ?_
      refine gk_seq (by kernel_rfl) ?_
      refine gk_region (by kernel_rfl) ?_
      refine gl_pure 1 [3, 5, 6, 7, 8, 9] (K' := [(3, .slice A15 s11.1.length n16), (5, .slice A39 x31.length n40), (6, .slice none 0 0), (7, .slice A0_0 a0.length n0_0), (8, .int .i64 (a0.length : Int)), (9, .int .i64 s11.2)]) (by kernel_rfl) ?_
      refine gl_atE (by kernel_rfl) ?_
      refine ge_seq ?_
      refine gk_region (by kernel_rfl) ?_
      refine gl_pure 3 [7, 8, 9, 13, 14, 15] (K' := [(7, .slice A0_0 a0.length n0_0), (8, .int .i64 (a0.length : Int)), (9, .int .i64 s11.2), (13, .slice A15 s11.1.length n16), (14, .slice none 0 0), (15, .slice A39 x31.length n40)]) (by kernel_rfl) ?_
      obtain ⟨zs42, hz43, hb13⟩ := bind_some hb13
      refine gl_append (xv := .slice A39 x31.length n40) (d := kS79) (t := 36) (tx := 36) (e := 80) (s := (.tmp 14)) (x := (.tmp 15)) (xs := []) (A := none) (c := 0) (C := []) (fun X => X ++ (C17 ++ L)) hz43 (by kernel_rfl) (by kernel_rfl) (by kernel_rfl) (by kernel_rfl) (by kernel_rfl) (by kernel_rfl) (fun X => Upd.new X _) (OwnS.nil _ _ _ none) (SrcOk.slice (c := n40) (e := 80) (n := 2) (RepS.rd hf41 _) (by kernel_rfl)) (fun A44 n45 C46 hO47 => ?_)
      refine gl_rest (Tk.step (Upd.rmC _ _) (Tk.nil _)) (fun J48 hJ49 hC50 => ?_)
      have hf51 := (OwnS.rest hO47 hJ49 hC50.left)
      refine gl_buildSlice (T' := 22) (e := 36) (n := 1) (len := 1) (parts := #[(0, (.tmp 16))]) (l := [(0, .slice A44 zs42.length n45)]) (cs := #[.slice A44 zs42.length n45]) (by kernel_rfl) (by kernel_rfl) (by kernel_rfl) (by kernel_rfl) (by kernel_rfl) (fun g52 => ?_)
      have hO53 : OwnS (Kd.sl kS79) 36 J48 (some ⟨g52, 0, none⟩) 1 [zs42] [(g52, .cells #[.slice A44 zs42.length n45] 36)] := OwnS.lit (row_cons (l := [.slice A44 zs42.length n45]) ⟨_, _, rfl, hf51⟩ (row_nil _ _)) rfl rfl rfl
      refine gl_reord (D := [(g52, .cells #[.slice A44 zs42.length n45] 36)] ++ (C17 ++ L)) (Reord.refl _) ?_
      obtain ⟨zs56, hz57, hb13⟩ := bind_some hb13
      refine gl_append (xv := .slice (some ⟨g52, 0, none⟩) [zs42].length 1) (d := (Kd.sl kS79)) (t := 22) (tx := 22) (e := 36) (s := (.tmp 13)) (x := (.tmp 17)) (xs := s11.1) (fun X => [(g52, .cells #[.slice A44 zs42.length n45] 36)] ++ (X ++ L)) hz57 (by kernel_rfl) (by kernel_rfl) (by kernel_rfl) (by kernel_rfl) (by kernel_rfl) (by kernel_rfl) (fun X => (Upd.app _ (Upd.head _ X _))) (hO18.mono hJ49) (SrcOk.slice (c := 1) (e := 36) (n := 1) (OwnS.rd hO53 (Upd.selfC _ _)) (by kernel_rfl)) (fun A58 n59 C60 hO61 => ?_)
      refine gl_pure 1 [3, 7, 8, 9] (K' := [(3, .slice A58 zs56.length n59), (7, .slice A0_0 a0.length n0_0), (8, .int .i64 (a0.length : Int)), (9, .int .i64 s11.2)]) (by kernel_rfl) ?_
      refine gl_atE (by kernel_rfl) ?_
      refine ge_block_normal ?_
      refine ge_seq ?_
      refine gk_region (by kernel_rfl) ?_
      refine gl_pure 2 [3, 7, 8, 9] (K' := [(3, .slice A58 zs56.length n59), (7, .slice A0_0 a0.length n0_0), (8, .int .i64 (a0.length : Int)), (9, .int .i64 (IntKind.wrap .i64 (s11.2 + 1)))]) (by kernel_rfl) ?_
      refine gl_reord (D := C60 ++ L) (Reord.step (Upd.app _ (Upd.rmC _ _)) (Reord.skipC (Reord.refl _))) ?_
      refine gl_atE (by kernel_rfl) ?_
      obtain rfl := some_inj hb13
      exact ge_round fun t ht => ⟨A58, n59, C60, hO61, (Imm.trans hI14 hJ49), rfl, ht.pick (l := [3, 7, 8, 9]) (by kernel_rfl)⟩
    · have hb13 := cond_f hc30 hb13
      refine gk_exit (by kernel_rfl) ?_
      refine ge_seq_exit ?_
      obtain rfl := some_inj hb13
      refine ge_round_out (fun hrr => ?_) (by intro h; cases h)
      obtain rfl := hrr
      refine ge_block_hit (by kernel_rfl) ?_
      exact ge_mid fun t ht => ⟨A15, n16, C17, hO18, hI14, rfl, ht.pick (l := [3]) (by kernel_rfl)⟩
  · rintro t I27 L' ⟨A22, n23, C24, hO25, hI21, rfl, hK26⟩
    refine ge_at hK26 ?_
    refine ge_seq ?_
    refine gk_seq (by kernel_rfl) ?_
    refine gk_region (by kernel_rfl) ?_
    refine gl_pure 2 [2] (K' := [(2, .slice A22 r9.length n23)]) (by kernel_rfl) ?_
    refine gl_atE (by kernel_rfl) ?_
    refine ge_seq ?_
    refine gk_ret (by kernel_rfl) ?_
    obtain rfl := some_inj hr
    exact ge_result trivial (ResOk.tmp (by kernel_rfl) ResOk.nil) hI21 ⟨A22, n23, C24, hO25, rfl, rfl⟩
/-! 115 tocsinref04_side  -/
noncomputable def tocsinref04_side (a0 : ByteArray) (a1 : ByteArray) : Int :=
  bif (Op.bytesLess a0.toList a1.toList) then
  ((-1))
  else
  (bif (!((Op.bytesLess a0.toList a1.toList) || (a0.toList == a1.toList))) then
    (1)
    else
    (0))
theorem tocsinref04_side_walk {a0 : ByteArray} {a1 : ByteArray} {I : Imm} {r : Int}  (hr : tocsinref04_side a0 a1 = r) (L : Own) :
    CallsTo Tryd.prog 115 #[.string a0, .string a1] I L (fun v I' L' => v = .int .i64 r ∧ L = L') := by
  replace hr : some (tocsinref04_side a0 a1) = some r := congrArg some hr
  unfold tocsinref04_side at hr
  refine callsTo_body (N := 11) Tryd.func115 (by kernel_rfl) (by kernel_rfl) (by kernel_rfl) ?_
  refine gk_pick [0, 1] (K' := [(0, .string a0), (1, .string a1)]) (by kernel_rfl) ?_
  refine gk_seq (by kernel_rfl) ?_
  refine gk_region (by kernel_rfl) ?_
  refine gl_pure 1 [0, 1] (K' := [(0, .string a0), (1, .string a1)]) (by kernel_rfl) ?_
  refine gl_atE (by kernel_rfl) ?_
  refine ge_seq ?_
  refine gk_seq (by kernel_rfl) ?_
  refine gk_seq (by kernel_rfl) ?_
  refine gk_region (by kernel_rfl) ?_
  refine gl_pure 3 [0, 1, 7] (K' := [(0, .string a0), (1, .string a1), (7, .bool (Op.bytesLess a0.toList a1.toList))]) (by kernel_rfl) ?_
  refine gl_atE (by kernel_rfl) ?_
  refine ge_seq ?_
  refine gk_cond (b := (Op.bytesLess a0.toList a1.toList)) (by kernel_rfl) (by kernel_rfl) (fun hc1 => ?_) (fun hc1 => ?_)
  · have hr := scond_t hc1 hr
    refine gk_seq (by kernel_rfl) ?_
    refine gk_region (by kernel_rfl) ?_
    refine gl_pure 1 [4] (K' := [(4, .int .i64 (-1))]) (by kernel_rfl) ?_
    refine gl_atE (by kernel_rfl) ?_
    refine ge_seq ?_
    refine gk_ret (by kernel_rfl) ?_
    refine ge_seq_ret ?_
    obtain rfl := some_inj hr
    exact ge_result trivial (ResOk.tmp (by kernel_rfl) ResOk.nil) (Imm.refl _) ⟨rfl, rfl⟩
  · have hr := scond_f hc1 hr
    refine gk_skip (by kernel_rfl) ?_
    refine ge_seq ?_
    refine gk_seq (by kernel_rfl) ?_
    refine gk_seq (by kernel_rfl) ?_
    refine gk_region (by kernel_rfl) ?_
    refine gl_pure 3 [10] (K' := [(10, .bool (!((Op.bytesLess a0.toList a1.toList) || (a0.toList == a1.toList))))]) (by kernel_rfl) ?_
    refine gl_atE (by kernel_rfl) ?_
    refine ge_seq ?_
    refine gk_cond (b := (!((Op.bytesLess a0.toList a1.toList) || (a0.toList == a1.toList)))) (by kernel_rfl) (by kernel_rfl) (fun hc2 => ?_) (fun hc2 => ?_)
    · have hr := scond_t hc2 hr
      refine gk_seq (by kernel_rfl) ?_
      refine gk_region (by kernel_rfl) ?_
      refine gl_pure 1 [4] (K' := [(4, .int .i64 1)]) (by kernel_rfl) ?_
      refine gl_atE (by kernel_rfl) ?_
      refine ge_seq ?_
      refine gk_ret (by kernel_rfl) ?_
      refine ge_seq_ret ?_
      obtain rfl := some_inj hr
      exact ge_result trivial (ResOk.tmp (by kernel_rfl) ResOk.nil) (Imm.refl _) ⟨rfl, rfl⟩
    · have hr := scond_f hc2 hr
      refine gk_skip (by kernel_rfl) ?_
      refine ge_seq ?_
      refine gk_seq (by kernel_rfl) ?_
      refine gk_region (by kernel_rfl) ?_
      refine gl_pure 1 [4] (K' := [(4, .int .i64 0)]) (by kernel_rfl) ?_
      refine gl_atE (by kernel_rfl) ?_
      refine ge_seq ?_
      refine gk_ret (by kernel_rfl) ?_
      obtain rfl := some_inj hr
      exact ge_result trivial (ResOk.tmp (by kernel_rfl) ResOk.nil) (Imm.refl _) ⟨rfl, rfl⟩
/-! 82 tocsinref04_Compare  -/
noncomputable def tocsinref04_Compare_l17 (a0 : List S79) (a1 : List S79) : Int → Option ((Int) ⊕ ((Unit) ⊕ (Int))) := fun s7 =>
  bif ((decide (s7 < (a0.length : Int))) && (decide (s7 < (a1.length : Int)))) then
  (Option.bind (ix a0 s7) fun (x26 : S79) =>
    Option.bind (ix a1 s7) fun (x34 : S79) =>
    bif ((tocsinref04_side x26.f0 x34.f0) != 0) then
    (some (Sum.inr (Sum.inr (tocsinref04_side x26.f0 x34.f0))))
    else
    (Option.bind (ix a0 s7) fun (x43 : S79) =>
      Option.bind (ix a1 s7) fun (x51 : S79) =>
      bif ((tocsinref04_side x43.f1 x51.f1) != 0) then
      (some (Sum.inr (Sum.inr (tocsinref04_side x43.f1 x51.f1))))
      else
      (some (Sum.inl (IntKind.wrap .i64 (s7 + 1))))))
  else
  (some (Sum.inr (Sum.inl ())))
noncomputable def tocsinref04_Compare (a0 : List S79) (a1 : List S79) : Option Int :=
  Option.bind (loopO (tocsinref04_Compare_l17 a0 a1) 0) fun (r5 : (Unit) ⊕ (Int)) =>
  match r5 with
  | Sum.inl r13 => bif (decide ((a0.length : Int) < (a1.length : Int))) then
    (some (-1))
    else
    (bif (decide ((a0.length : Int) > (a1.length : Int))) then
      (some 1)
      else
      (some 0))
  | Sum.inr v62 => some v62
theorem tocsinref04_Compare_walk {a0 : List S79} {A0_0 : Option Addr} {n0_0 : Nat} {a1 : List S79} {A1_0 : Option Addr} {n1_0 : Nat} {I : Imm} {r : Int}  (hf0_0 : RepS kS79 I A0_0 n0_0 a0)  (hf1_0 : RepS kS79 I A1_0 n1_0 a1) (hr : tocsinref04_Compare a0 a1 = some r) (L : Own) :
    CallsTo Tryd.prog 82 #[.slice A0_0 a0.length n0_0, .slice A1_0 a1.length n1_0] I L (fun v I' L' => v = .int .i64 r ∧ L = L') := by
  unfold tocsinref04_Compare at hr
  refine callsTo_body (N := 58) Tryd.func82 (by kernel_rfl) (by kernel_rfl) (by kernel_rfl) ?_
  refine gk_pick [0, 1] (K' := [(0, .slice A0_0 a0.length n0_0), (1, .slice A1_0 a1.length n1_0)]) (by kernel_rfl) ?_
  refine gk_seq (by kernel_rfl) ?_
  refine gk_region (by kernel_rfl) ?_
  refine gl_pure 1 [0, 1] (K' := [(0, .slice A0_0 a0.length n0_0), (1, .slice A1_0 a1.length n1_0)]) (by kernel_rfl) ?_
  refine gl_atE (by kernel_rfl) ?_
  refine ge_seq ?_
  refine gk_seq (by kernel_rfl) ?_
  refine gk_seq (by kernel_rfl) ?_
  refine gk_region (by kernel_rfl) ?_
  refine gl_pure 1 [0, 1, 5] (K' := [(0, .slice A0_0 a0.length n0_0), (1, .slice A1_0 a1.length n1_0), (5, .int .i64 0)]) (by kernel_rfl) ?_
  refine gl_atE (by kernel_rfl) ?_
  refine ge_seq ?_
  obtain ⟨r5, hl6, hr⟩ := bind_some hr
  refine gk_join (fun t I' L' => ∃ r13, r5 = Sum.inl r13 ∧ I ≤ I' ∧ L = L' ∧ Knows 58 [(0, .slice A0_0 a0.length n0_0), (1, .slice A1_0 a1.length n1_0)] t) ?_ ?_
  · refine gk_block (by kernel_rfl) ?_
    refine gk_pick [0, 1, 5] (K' := [(0, .slice A0_0 a0.length n0_0), (1, .slice A1_0 a1.length n1_0), (5, .int .i64 0)]) (by kernel_rfl) ?_
    intro t hK
    refine gc_loop (tocsinref04_Compare_l17 a0 a1) (fun s7 t I' L' => I ≤ I' ∧ L = L' ∧ Knows 58 [(0, .slice A0_0 a0.length n0_0), (1, .slice A1_0 a1.length n1_0), (5, .int .i64 s7)] t) (by kernel_rfl) ?_ hl6 ⟨(Imm.refl _), rfl, hK⟩
    rintro s7 o8 t I12 L' hb9 ⟨hI10, rfl, hK11⟩
    unfold tocsinref04_Compare_l17 at hb9
    refine gk_at hK11 ?_
    refine gk_seq (by kernel_rfl) ?_
    refine gk_seq (by kernel_rfl) ?_
    obtain ⟨b21, hb22⟩ : ∃ z, z = ((decide (s7 < (a0.length : Int))) && (decide (s7 < (a1.length : Int)))) := ⟨_, rfl⟩
    refine gk_join (fun t I' L' => I12 ≤ I' ∧ L = L' ∧ Knows 58 [(0, .slice A0_0 a0.length n0_0), (1, .slice A1_0 a1.length n1_0), (5, .int .i64 s7), (17, .bool b21)] t) ?_ ?_
    · refine gk_region (by kernel_rfl) ?_
      refine gl_pure 5 [0, 1, 5, 12] (K' := [(0, .slice A0_0 a0.length n0_0), (1, .slice A1_0 a1.length n1_0), (5, .int .i64 s7), (12, .bool (decide (s7 < (a0.length : Int))))]) (by kernel_rfl) ?_
      refine gl_case 12 (b := (decide (s7 < (a0.length : Int)))) (by kernel_rfl) (fun hc24 => ?_) (fun hc24 => ?_)
      · refine gl_pure 5 [0, 1, 5, 17] (K' := [(0, .slice A0_0 a0.length n0_0), (1, .slice A1_0 a1.length n1_0), (5, .int .i64 s7), (17, .bool (decide (s7 < (a1.length : Int))))]) (by kernel_rfl) ?_
        refine gl_atE (by kernel_rfl) ?_
        exact ge_mid fun t ht => ⟨(Imm.refl _), rfl, by rw [(show b21 = (decide (s7 < (a1.length : Int))) from hb22.trans (by rw [hc24]; try rfl))]; exact ht.pick (l := [0, 1, 5, 17]) (by kernel_rfl)⟩
      · refine gl_pure 5 [0, 1, 5, 17] (K' := [(0, .slice A0_0 a0.length n0_0), (1, .slice A1_0 a1.length n1_0), (5, .int .i64 s7), (17, .bool false)]) (by kernel_rfl) ?_
        refine gl_atE (by kernel_rfl) ?_
        exact ge_mid fun t ht => ⟨(Imm.refl _), rfl, by rw [(show b21 = false from hb22.trans (by rw [hc24]; try rfl))]; exact ht.pick (l := [0, 1, 5, 17]) (by kernel_rfl)⟩
    · rintro t I23 L' ⟨hI19, rfl, hK20⟩
      subst hb22
      refine ge_at hK20 ?_
      refine ge_seq ?_
      refine gk_cond (b := ((decide (s7 < (a0.length : Int))) && (decide (s7 < (a1.length : Int))))) (by kernel_rfl) (by kernel_rfl) (fun hc25 => ?_) (fun hc25 => ?_)
      · have hb9 := cond_t hc25 hb9
        refine gk_skip (by kernel_rfl) ?_
        refine ge_seq ?_
        refine gk_seq (by kernel_rfl) ?_
        refine gk_block (by kernel_rfl) ?_
        refine gk_seq (by kernel_rfl) ?_
        refine gk_seq (by kernel_rfl) ?_
        refine gk_draw 10 [(0, true), (1, true), (2, true), (3, true), (4, true), (5, true), (6, true), (7, true), (8, true), (9, true)] [] (fun p hp => by cases hp) (by kernel_rfl) (by kernel_rfl) (by kernel_rfl) ?_ (by kernel_rfl)
        refine gd_pure 2 [0, 1, 5, 20, 21] (K' := [(0, .slice A0_0 a0.length n0_0), (1, .slice A1_0 a1.length n1_0), (5, .int .i64 s7), (20, .slice A0_0 a0.length n0_0), (21, .int .i64 s7)]) (s' := [(2, true), (3, true), (4, true), (5, true), (6, true), (7, true), (8, true), (9, true)]) (CC.refl (fun p hp => by cases hp)) (by kernel_rfl) ?_
        obtain ⟨x26, hx27, hb9⟩ := bind_some hb9
        obtain ⟨p28, cs29, hR30, hA31, ha32⟩ := RepS.ixAt hx27 (hf0_0.mono (Imm.trans hI10 hI19))
        have hi33 := ix_some hx27
        obtain rfl := kS79_open hR30
        refine gd_q (v := .pointer (some p28)) (by kernel_rfl) (by kernel_rfl) (CC.refl (fun p hp => by cases hp)) (fun I' L' T hC kk => gl_indexAddrF (c := n0_0) (T' := 36) (e := 80) (xs := (.tmp 20)) (xi := (.tmp 21)) (kd := .i64) ha32 hi33.1 hi33.2.1 (by kernel_rfl) (by kernel_rfl) (by kernel_rfl) (by kernel_rfl) (by kernel_rfl) kk) ?_
        refine gd_pure 1 [0, 1, 5, 23] (K' := [(0, .slice A0_0 a0.length n0_0), (1, .slice A1_0 a1.length n1_0), (5, .int .i64 s7), (23, .pointer (some (p28.add 0)))]) (s' := [(4, true), (5, true), (6, true), (7, true), (8, true), (9, true)]) (CC.refl (fun p hp => by cases hp)) (by kernel_rfl) ?_
        refine gd_q (v := .string x26.f0) (by kernel_rfl) (by kernel_rfl) (CC.refl (fun p hp => by cases hp)) (fun I' L' T hC kk => gl_load (T' := 9) (xp := (.tmp 23)) (p := (p28.add 0)) (c := .string x26.f0) (n := 1) (by kernel_rfl) (by kernel_rfl) (by kernel_rfl) (by kernel_rfl) ((hA31.drop 0).mono hC.le) kk) ?_
        refine gd_pure 2 [0, 1, 5, 24, 25, 26] (K' := [(0, .slice A0_0 a0.length n0_0), (1, .slice A1_0 a1.length n1_0), (5, .int .i64 s7), (24, .string x26.f0), (25, .slice A1_0 a1.length n1_0), (26, .int .i64 s7)]) (s' := [(7, true), (8, true), (9, true)]) (CC.refl (fun p hp => by cases hp)) (by kernel_rfl) ?_
        obtain ⟨x34, hx35, hb9⟩ := bind_some hb9
        obtain ⟨p36, cs37, hR38, hA39, ha40⟩ := RepS.ixAt hx35 (hf1_0.mono (Imm.trans hI10 hI19))
        have hi41 := ix_some hx35
        obtain rfl := kS79_open hR38
        refine gd_q (v := .pointer (some p36)) (by kernel_rfl) (by kernel_rfl) (CC.refl (fun p hp => by cases hp)) (fun I' L' T hC kk => gl_indexAddrF (c := n1_0) (T' := 36) (e := 80) (xs := (.tmp 25)) (xi := (.tmp 26)) (kd := .i64) ha40 hi41.1 hi41.2.1 (by kernel_rfl) (by kernel_rfl) (by kernel_rfl) (by kernel_rfl) (by kernel_rfl) kk) ?_
        refine gd_pure 1 [0, 1, 5, 24, 28] (K' := [(0, .slice A0_0 a0.length n0_0), (1, .slice A1_0 a1.length n1_0), (5, .int .i64 s7), (24, .string x26.f0), (28, .pointer (some (p36.add 0)))]) (s' := [(9, true)]) (CC.refl (fun p hp => by cases hp)) (by kernel_rfl) ?_
        refine gd_q (v := .string x34.f0) (by kernel_rfl) (by kernel_rfl) (CC.refl (fun p hp => by cases hp)) (fun I' L' T hC kk => gl_load (T' := 9) (xp := (.tmp 28)) (p := (p36.add 0)) (c := .string x34.f0) (n := 1) (by kernel_rfl) (by kernel_rfl) (by kernel_rfl) (by kernel_rfl) ((hA39.drop 0).mono hC.le) kk) ?_
        refine gd_done ?_
        refine gl_callQ (by kernel_rfl) (tocsinref04_side_walk (r := (tocsinref04_side x26.f0 x34.f0))  rfl _) ?_
        refine gl_pure 1 [0, 1, 5, 6] (K' := [(0, .slice A0_0 a0.length n0_0), (1, .slice A1_0 a1.length n1_0), (5, .int .i64 s7), (6, .int .i64 (tocsinref04_side x26.f0 x34.f0))]) (by kernel_rfl) ?_
        refine gl_atE (by kernel_rfl) ?_
        refine ge_seq ?_
        refine gk_seq (by kernel_rfl) ?_
        refine gk_region (by kernel_rfl) ?_
        refine gl_pure 2 [0, 1, 5, 6, 32] (K' := [(0, .slice A0_0 a0.length n0_0), (1, .slice A1_0 a1.length n1_0), (5, .int .i64 s7), (6, .int .i64 (tocsinref04_side x26.f0 x34.f0)), (32, .bool ((tocsinref04_side x26.f0 x34.f0) != 0))]) (by kernel_rfl) ?_
        refine gl_atE (by kernel_rfl) ?_
        refine ge_seq ?_
        refine gk_cond (b := ((tocsinref04_side x26.f0 x34.f0) != 0)) (by kernel_rfl) (by kernel_rfl) (fun hc42 => ?_) (fun hc42 => ?_)
        · have hb9 := cond_t hc42 hb9
          refine gk_seq (by kernel_rfl) ?_
          refine gk_region (by kernel_rfl) ?_
          refine gl_pure 2 [4] (K' := [(4, .int .i64 (tocsinref04_side x26.f0 x34.f0))]) (by kernel_rfl) ?_
          refine gl_atE (by kernel_rfl) ?_
          refine ge_seq ?_
          refine gk_ret (by kernel_rfl) ?_
          refine ge_seq_ret ?_
          refine ge_block_ret ?_
          refine ge_seq_ret ?_
          obtain rfl := some_inj hb9
          refine ge_round_out (fun hrr => ?_) (by intro h; cases h)
          obtain rfl := hrr
          refine ge_block_ret ?_
          refine ge_seq_ret ?_
          refine ge_seq_ret ?_
          obtain rfl := some_inj hr
          exact ge_result trivial (ResOk.tmp (by kernel_rfl) ResOk.nil) (Imm.trans hI10 hI19) ⟨rfl, rfl⟩
        · have hb9 := cond_f hc42 hb9
          refine gk_skip (by kernel_rfl) ?_
          refine ge_seq ?_
          refine gk_seq (by kernel_rfl) ?_
          refine gk_draw 10 [(0, true), (1, true), (2, true), (3, true), (4, true), (5, true), (6, true), (7, true), (8, true), (9, true)] [] (fun p hp => by cases hp) (by kernel_rfl) (by kernel_rfl) (by kernel_rfl) ?_ (by kernel_rfl)
          refine gd_pure 2 [0, 1, 5, 34, 35] (K' := [(0, .slice A0_0 a0.length n0_0), (1, .slice A1_0 a1.length n1_0), (5, .int .i64 s7), (34, .slice A0_0 a0.length n0_0), (35, .int .i64 s7)]) (s' := [(2, true), (3, true), (4, true), (5, true), (6, true), (7, true), (8, true), (9, true)]) (CC.refl (fun p hp => by cases hp)) (by kernel_rfl) ?_
          obtain ⟨x43, hx44, hb9⟩ := bind_some hb9
          obtain ⟨p45, cs46, hR47, hA48, ha49⟩ := RepS.ixAt hx44 (hf0_0.mono (Imm.trans hI10 hI19))
          have hi50 := ix_some hx44
          obtain rfl := kS79_open hR47
          refine gd_q (v := .pointer (some p45)) (by kernel_rfl) (by kernel_rfl) (CC.refl (fun p hp => by cases hp)) (fun I' L' T hC kk => gl_indexAddrF (c := n0_0) (T' := 36) (e := 80) (xs := (.tmp 34)) (xi := (.tmp 35)) (kd := .i64) ha49 hi50.1 hi50.2.1 (by kernel_rfl) (by kernel_rfl) (by kernel_rfl) (by kernel_rfl) (by kernel_rfl) kk) ?_
          refine gd_pure 1 [0, 1, 5, 37] (K' := [(0, .slice A0_0 a0.length n0_0), (1, .slice A1_0 a1.length n1_0), (5, .int .i64 s7), (37, .pointer (some (p45.add 1)))]) (s' := [(4, true), (5, true), (6, true), (7, true), (8, true), (9, true)]) (CC.refl (fun p hp => by cases hp)) (by kernel_rfl) ?_
          refine gd_q (v := .string x43.f1) (by kernel_rfl) (by kernel_rfl) (CC.refl (fun p hp => by cases hp)) (fun I' L' T hC kk => gl_load (T' := 9) (xp := (.tmp 37)) (p := (p45.add 1)) (c := .string x43.f1) (n := 1) (by kernel_rfl) (by kernel_rfl) (by kernel_rfl) (by kernel_rfl) ((hA48.drop 1).mono hC.le) kk) ?_
          refine gd_pure 2 [0, 1, 5, 38, 39, 40] (K' := [(0, .slice A0_0 a0.length n0_0), (1, .slice A1_0 a1.length n1_0), (5, .int .i64 s7), (38, .string x43.f1), (39, .slice A1_0 a1.length n1_0), (40, .int .i64 s7)]) (s' := [(7, true), (8, true), (9, true)]) (CC.refl (fun p hp => by cases hp)) (by kernel_rfl) ?_
          obtain ⟨x51, hx52, hb9⟩ := bind_some hb9
          obtain ⟨p53, cs54, hR55, hA56, ha57⟩ := RepS.ixAt hx52 (hf1_0.mono (Imm.trans hI10 hI19))
          have hi58 := ix_some hx52
          obtain rfl := kS79_open hR55
          refine gd_q (v := .pointer (some p53)) (by kernel_rfl) (by kernel_rfl) (CC.refl (fun p hp => by cases hp)) (fun I' L' T hC kk => gl_indexAddrF (c := n1_0) (T' := 36) (e := 80) (xs := (.tmp 39)) (xi := (.tmp 40)) (kd := .i64) ha57 hi58.1 hi58.2.1 (by kernel_rfl) (by kernel_rfl) (by kernel_rfl) (by kernel_rfl) (by kernel_rfl) kk) ?_
          refine gd_pure 1 [0, 1, 5, 38, 42] (K' := [(0, .slice A0_0 a0.length n0_0), (1, .slice A1_0 a1.length n1_0), (5, .int .i64 s7), (38, .string x43.f1), (42, .pointer (some (p53.add 1)))]) (s' := [(9, true)]) (CC.refl (fun p hp => by cases hp)) (by kernel_rfl) ?_
          refine gd_q (v := .string x51.f1) (by kernel_rfl) (by kernel_rfl) (CC.refl (fun p hp => by cases hp)) (fun I' L' T hC kk => gl_load (T' := 9) (xp := (.tmp 42)) (p := (p53.add 1)) (c := .string x51.f1) (n := 1) (by kernel_rfl) (by kernel_rfl) (by kernel_rfl) (by kernel_rfl) ((hA56.drop 1).mono hC.le) kk) ?_
          refine gd_done ?_
          refine gl_callQ (by kernel_rfl) (tocsinref04_side_walk (r := (tocsinref04_side x43.f1 x51.f1))  rfl _) ?_
          refine gl_pure 1 [0, 1, 5, 7] (K' := [(0, .slice A0_0 a0.length n0_0), (1, .slice A1_0 a1.length n1_0), (5, .int .i64 s7), (7, .int .i64 (tocsinref04_side x43.f1 x51.f1))]) (by kernel_rfl) ?_
          refine gl_atE (by kernel_rfl) ?_
          refine ge_seq ?_
          refine gk_seq (by kernel_rfl) ?_
          refine gk_region (by kernel_rfl) ?_
          refine gl_pure 2 [0, 1, 5, 7, 46] (K' := [(0, .slice A0_0 a0.length n0_0), (1, .slice A1_0 a1.length n1_0), (5, .int .i64 s7), (7, .int .i64 (tocsinref04_side x43.f1 x51.f1)), (46, .bool ((tocsinref04_side x43.f1 x51.f1) != 0))]) (by kernel_rfl) ?_
          refine gl_atE (by kernel_rfl) ?_
          refine ge_seq ?_
          refine gk_cond (b := ((tocsinref04_side x43.f1 x51.f1) != 0)) (by kernel_rfl) (by kernel_rfl) (fun hc59 => ?_) (fun hc59 => ?_)
          · have hb9 := cond_t hc59 hb9
            refine gk_seq (by kernel_rfl) ?_
            refine gk_region (by kernel_rfl) ?_
            refine gl_pure 2 [4] (K' := [(4, .int .i64 (tocsinref04_side x43.f1 x51.f1))]) (by kernel_rfl) ?_
            refine gl_atE (by kernel_rfl) ?_
            refine ge_seq ?_
            refine gk_ret (by kernel_rfl) ?_
            refine ge_block_ret ?_
            refine ge_seq_ret ?_
            obtain rfl := some_inj hb9
            refine ge_round_out (fun hrr => ?_) (by intro h; cases h)
            obtain rfl := hrr
            refine ge_block_ret ?_
            refine ge_seq_ret ?_
            refine ge_seq_ret ?_
            obtain rfl := some_inj hr
            exact ge_result trivial (ResOk.tmp (by kernel_rfl) ResOk.nil) (Imm.trans hI10 hI19) ⟨rfl, rfl⟩
          · have hb9 := cond_f hc59 hb9
            refine gk_skip (by kernel_rfl) ?_
            refine ge_block_normal ?_
            refine ge_seq ?_
            refine gk_region (by kernel_rfl) ?_
            refine gl_pure 3 [0, 1, 5] (K' := [(0, .slice A0_0 a0.length n0_0), (1, .slice A1_0 a1.length n1_0), (5, .int .i64 (IntKind.wrap .i64 (s7 + 1)))]) (by kernel_rfl) ?_
            refine gl_atE (by kernel_rfl) ?_
            obtain rfl := some_inj hb9
            exact ge_round fun t ht => ⟨(Imm.trans hI10 hI19), rfl, ht.pick (l := [0, 1, 5]) (by kernel_rfl)⟩
      · have hb9 := cond_f hc25 hb9
        refine gk_exit (by kernel_rfl) ?_
        refine ge_seq_exit ?_
        obtain rfl := some_inj hb9
        refine ge_round_out (fun hrr => ?_) (by intro h; cases h)
        obtain rfl := hrr
        refine ge_block_hit (by kernel_rfl) ?_
        exact ge_mid fun t ht => ⟨_, rfl, (Imm.trans hI10 hI19), rfl, ht.pick (l := [0, 1]) (by kernel_rfl)⟩
  · rintro t I16 L' ⟨r13, rfl, hI14, rfl, hK15⟩
    refine ge_at hK15 ?_
    refine ge_seq ?_
    refine gk_seq (by kernel_rfl) ?_
    refine gk_seq (by kernel_rfl) ?_
    refine gk_region (by kernel_rfl) ?_
    refine gl_pure 5 [0, 1, 52] (K' := [(0, .slice A0_0 a0.length n0_0), (1, .slice A1_0 a1.length n1_0), (52, .bool (decide ((a0.length : Int) < (a1.length : Int))))]) (by kernel_rfl) ?_
    refine gl_atE (by kernel_rfl) ?_
    refine ge_seq ?_
    refine gk_cond (b := (decide ((a0.length : Int) < (a1.length : Int)))) (by kernel_rfl) (by kernel_rfl) (fun hc60 => ?_) (fun hc60 => ?_)
    · have hr := cond_t hc60 hr
      refine gk_seq (by kernel_rfl) ?_
      refine gk_region (by kernel_rfl) ?_
      refine gl_pure 1 [4] (K' := [(4, .int .i64 (-1))]) (by kernel_rfl) ?_
      refine gl_atE (by kernel_rfl) ?_
      refine ge_seq ?_
      refine gk_ret (by kernel_rfl) ?_
      refine ge_seq_ret ?_
      obtain rfl := some_inj hr
      exact ge_result trivial (ResOk.tmp (by kernel_rfl) ResOk.nil) hI14 ⟨rfl, rfl⟩
    · have hr := cond_f hc60 hr
      refine gk_skip (by kernel_rfl) ?_
      refine ge_seq ?_
      refine gk_seq (by kernel_rfl) ?_
      refine gk_seq (by kernel_rfl) ?_
      refine gk_region (by kernel_rfl) ?_
      refine gl_pure 5 [57] (K' := [(57, .bool (decide ((a0.length : Int) > (a1.length : Int))))]) (by kernel_rfl) ?_
      refine gl_atE (by kernel_rfl) ?_
      refine ge_seq ?_
      refine gk_cond (b := (decide ((a0.length : Int) > (a1.length : Int)))) (by kernel_rfl) (by kernel_rfl) (fun hc61 => ?_) (fun hc61 => ?_)
      · have hr := cond_t hc61 hr
        refine gk_seq (by kernel_rfl) ?_
        refine gk_region (by kernel_rfl) ?_
        refine gl_pure 1 [4] (K' := [(4, .int .i64 1)]) (by kernel_rfl) ?_
        refine gl_atE (by kernel_rfl) ?_
        refine ge_seq ?_
        refine gk_ret (by kernel_rfl) ?_
        refine ge_seq_ret ?_
        obtain rfl := some_inj hr
        exact ge_result trivial (ResOk.tmp (by kernel_rfl) ResOk.nil) hI14 ⟨rfl, rfl⟩
      · have hr := cond_f hc61 hr
        refine gk_skip (by kernel_rfl) ?_
        refine ge_seq ?_
        refine gk_seq (by kernel_rfl) ?_
        refine gk_region (by kernel_rfl) ?_
        refine gl_pure 1 [4] (K' := [(4, .int .i64 0)]) (by kernel_rfl) ?_
        refine gl_atE (by kernel_rfl) ?_
        refine ge_seq ?_
        refine gk_ret (by kernel_rfl) ?_
        obtain rfl := some_inj hr
        exact ge_result trivial (ResOk.tmp (by kernel_rfl) ResOk.nil) hI14 ⟨rfl, rfl⟩
/-! 77 tocsinref04_Same  -/
noncomputable def tocsinref04_Same (a0 : List S79) (a1 : List S79) : Option Bool :=
  Option.bind (tocsinref04_Compare a0 a1) fun (y1 : Int) =>
  some (y1 == 0)
theorem tocsinref04_Same_walk {a0 : List S79} {A0_0 : Option Addr} {n0_0 : Nat} {a1 : List S79} {A1_0 : Option Addr} {n1_0 : Nat} {I : Imm} {r : Bool}  (hf0_0 : RepS kS79 I A0_0 n0_0 a0)  (hf1_0 : RepS kS79 I A1_0 n1_0 a1) (hr : tocsinref04_Same a0 a1 = some r) (L : Own) :
    CallsTo Tryd.prog 77 #[.slice A0_0 a0.length n0_0, .slice A1_0 a1.length n1_0] I L (fun v I' L' => v = .bool r ∧ L = L') := by
  unfold tocsinref04_Same at hr
  refine callsTo_body (N := 9) Tryd.func77 (by kernel_rfl) (by kernel_rfl) (by kernel_rfl) ?_
  refine gk_pick [0, 1] (K' := [(0, .slice A0_0 a0.length n0_0), (1, .slice A1_0 a1.length n1_0)]) (by kernel_rfl) ?_
  refine gk_seq (by kernel_rfl) ?_
  refine gk_region (by kernel_rfl) ?_
  refine gl_pure 1 [0, 1] (K' := [(0, .slice A0_0 a0.length n0_0), (1, .slice A1_0 a1.length n1_0)]) (by kernel_rfl) ?_
  refine gl_atE (by kernel_rfl) ?_
  refine ge_seq ?_
  refine gk_seq (by kernel_rfl) ?_
  refine gk_region (by kernel_rfl) ?_
  refine gl_pure 2 [5, 6] (K' := [(5, .slice A0_0 a0.length n0_0), (6, .slice A1_0 a1.length n1_0)]) (by kernel_rfl) ?_
  obtain ⟨y1, hx2, hr⟩ := bind_some hr
  refine gl_callQ (by kernel_rfl) (tocsinref04_Compare_walk (r := y1) hf0_0 hf1_0 hx2 _) ?_
  refine gl_pure 2 [4] (K' := [(4, .bool (y1 == 0))]) (by kernel_rfl) ?_
  refine gl_atE (by kernel_rfl) ?_
  refine ge_seq ?_
  refine gk_ret (by kernel_rfl) ?_
  obtain rfl := some_inj hr
  exact ge_result trivial (ResOk.tmp (by kernel_rfl) ResOk.nil) (Imm.refl _) ⟨rfl, rfl⟩
/-! 35 tocsinref26_Within  -/
noncomputable def tocsinref26_Within_l46 (a1 : List (List S79)) (x20 : List S79) : (Bool × Int) → Option ((Bool × Int) ⊕ (Bool)) := fun s37 =>
  bif (decide (s37.2 < (a1.length : Int))) then
  (Option.bind (ix a1 s37.2) fun (x49 : List S79) =>
    Option.bind (bif s37.1 then
      (some true)
      else
      (Option.bind (tocsinref04_Same x20 x49) fun (y66 : Bool) =>
        some y66)) fun (j60 : Bool) =>
    some (Sum.inl (j60, (IntKind.wrap .i64 (s37.2 + 1)))))
  else
  (some (Sum.inr s37.1))
noncomputable def tocsinref26_Within_l17 (a0 : List (List S79)) (a1 : List (List S79)) : Int → Option ((Int) ⊕ ((Unit) ⊕ (Bool))) := fun s7 =>
  bif (decide (s7 < (a0.length : Int))) then
  (Option.bind (ix a0 s7) fun (x20 : List S79) =>
    Option.bind (loopO (tocsinref26_Within_l46 a1 x20) (false, 0)) fun (r35 : Bool) =>
    bif (!r35) then
    (some (Sum.inr (Sum.inr false)))
    else
    (some (Sum.inl (IntKind.wrap .i64 (s7 + 1)))))
  else
  (some (Sum.inr (Sum.inl ())))
noncomputable def tocsinref26_Within (a0 : List (List S79)) (a1 : List (List S79)) : Option Bool :=
  Option.bind (loopO (tocsinref26_Within_l17 a0 a1) 0) fun (r5 : (Unit) ⊕ (Bool)) =>
  match r5 with
  | Sum.inl r13 => some true
  | Sum.inr v69 => some v69
theorem tocsinref26_Within_walk {a0 : List (List S79)} {A0_0 : Option Addr} {n0_0 : Nat} {a1 : List (List S79)} {A1_0 : Option Addr} {n1_0 : Nat} {I : Imm} {r : Bool}  (hf0_0 : RepS (Kd.sl kS79) I A0_0 n0_0 a0)  (hf1_0 : RepS (Kd.sl kS79) I A1_0 n1_0 a1) (hr : tocsinref26_Within a0 a1 = some r) (L : Own) :
    CallsTo Tryd.prog 35 #[.slice A0_0 a0.length n0_0, .slice A1_0 a1.length n1_0] I L (fun v I' L' => v = .bool r ∧ L = L') := by
  unfold tocsinref26_Within at hr
  refine callsTo_body (N := 32) Tryd.func35 (by kernel_rfl) (by kernel_rfl) (by kernel_rfl) ?_
  refine gk_pick [0, 1] (K' := [(0, .slice A0_0 a0.length n0_0), (1, .slice A1_0 a1.length n1_0)]) (by kernel_rfl) ?_
  refine gk_seq (by kernel_rfl) ?_
  refine gk_region (by kernel_rfl) ?_
  refine gl_pure 1 [0, 1] (K' := [(0, .slice A0_0 a0.length n0_0), (1, .slice A1_0 a1.length n1_0)]) (by kernel_rfl) ?_
  refine gl_atE (by kernel_rfl) ?_
  refine ge_seq ?_
  refine gk_seq (by kernel_rfl) ?_
  refine gk_seq (by kernel_rfl) ?_
  refine gk_region (by kernel_rfl) ?_
  refine gl_pure 3 [1, 10, 11, 12] (K' := [(1, .slice A1_0 a1.length n1_0), (10, .slice A0_0 a0.length n0_0), (11, .int .i64 (a0.length : Int)), (12, .int .i64 0)]) (by kernel_rfl) ?_
  refine gl_atE (by kernel_rfl) ?_
  refine ge_seq ?_
  obtain ⟨r5, hl6, hr⟩ := bind_some hr
  refine gk_join (fun t I' L' => ∃ r13, r5 = Sum.inl r13 ∧ I ≤ I' ∧ L = L' ∧ Knows 32 [] t) ?_ ?_
  · refine gk_block (by kernel_rfl) ?_
    refine gk_pick [1, 10, 11, 12] (K' := [(1, .slice A1_0 a1.length n1_0), (10, .slice A0_0 a0.length n0_0), (11, .int .i64 (a0.length : Int)), (12, .int .i64 0)]) (by kernel_rfl) ?_
    intro t hK
    refine gc_loop (tocsinref26_Within_l17 a0 a1) (fun s7 t I' L' => I ≤ I' ∧ L = L' ∧ Knows 32 [(1, .slice A1_0 a1.length n1_0), (10, .slice A0_0 a0.length n0_0), (11, .int .i64 (a0.length : Int)), (12, .int .i64 s7)] t) (by kernel_rfl) ?_ hl6 ⟨(Imm.refl _), rfl, hK⟩
    rintro s7 o8 t I12 L' hb9 ⟨hI10, rfl, hK11⟩
    unfold tocsinref26_Within_l17 at hb9
    refine gk_at hK11 ?_
    refine gk_seq (by kernel_rfl) ?_
    refine gk_region (by kernel_rfl) ?_
    refine gl_pure 1 [1, 10, 11, 12, 13] (K' := [(1, .slice A1_0 a1.length n1_0), (10, .slice A0_0 a0.length n0_0), (11, .int .i64 (a0.length : Int)), (12, .int .i64 s7), (13, .bool (decide (s7 < (a0.length : Int))))]) (by kernel_rfl) ?_
    refine gl_atE (by kernel_rfl) ?_
    refine ge_seq ?_
    refine gk_seq (by kernel_rfl) ?_
    refine gk_cond (b := (decide (s7 < (a0.length : Int)))) (by kernel_rfl) (by kernel_rfl) (fun hc19 => ?_) (fun hc19 => ?_)
    · have hb9 := cond_t hc19 hb9
      refine gk_skip (by kernel_rfl) ?_
      refine ge_seq ?_
      refine gk_seq (by kernel_rfl) ?_
      refine gk_block (by kernel_rfl) ?_
      refine gk_seq (by kernel_rfl) ?_
      refine gk_region (by kernel_rfl) ?_
      obtain ⟨x20, hx21, hb9⟩ := bind_some hb9
      obtain ⟨p22, cs23, hR24, hA25, ha26⟩ := RepS.ixAt hx21 (hf0_0.mono hI10)
      have hi27 := ix_some hx21
      obtain ⟨A28, n29, rfl, hf30⟩ := sl_open hR24
      refine gl_indexAddrF (c := n0_0) (T' := 22) (e := 36) (xs := (.tmp 10)) (xi := (.tmp 12)) (kd := .i64) ha26 hi27.1 hi27.2.1 (by kernel_rfl) (by kernel_rfl) (by kernel_rfl) (by kernel_rfl) (by kernel_rfl) ?_
      refine gl_load (T' := 36) (xp := (.tmp 14)) (p := p22) (c := .slice A28 x20.length n29) (n := 1) (by kernel_rfl) (by kernel_rfl) (by kernel_rfl) (by kernel_rfl) hA25 ?_
      refine gl_pure 1 [1, 6, 10, 11, 12] (K' := [(1, .slice A1_0 a1.length n1_0), (6, .slice A28 x20.length n29), (10, .slice A0_0 a0.length n0_0), (11, .int .i64 (a0.length : Int)), (12, .int .i64 s7)]) (by kernel_rfl) ?_
      refine gl_atE (by kernel_rfl) ?_
      refine ge_seq ?_
      refine gk_seq (by kernel_rfl) ?_
      refine gk_region (by kernel_rfl) ?_
      refine gl_pure 1 [1, 6, 7, 10, 11, 12] (K' := [(1, .slice A1_0 a1.length n1_0), (6, .slice A28 x20.length n29), (7, .bool false), (10, .slice A0_0 a0.length n0_0), (11, .int .i64 (a0.length : Int)), (12, .int .i64 s7)]) (by kernel_rfl) ?_
      refine gl_atE (by kernel_rfl) ?_
      refine ge_seq ?_
      refine gk_seq (by kernel_rfl) ?_
      refine gk_seq (by kernel_rfl) ?_
      refine gk_region (by kernel_rfl) ?_
      refine gl_pure 3 [1, 6, 7, 10, 11, 12, 16, 17, 18] (K' := [(1, .slice A1_0 a1.length n1_0), (6, .slice A28 x20.length n29), (7, .bool false), (10, .slice A0_0 a0.length n0_0), (11, .int .i64 (a0.length : Int)), (12, .int .i64 s7), (16, .slice A1_0 a1.length n1_0), (17, .int .i64 (a1.length : Int)), (18, .int .i64 0)]) (by kernel_rfl) ?_
      refine gl_atE (by kernel_rfl) ?_
      refine ge_seq ?_
      obtain ⟨r35, hl36, hb9⟩ := bind_some hb9
      refine gk_join (fun t I' L' => I12 ≤ I' ∧ L = L' ∧ Knows 32 [(1, .slice A1_0 a1.length n1_0), (7, .bool r35), (10, .slice A0_0 a0.length n0_0), (11, .int .i64 (a0.length : Int)), (12, .int .i64 s7)] t) ?_ ?_
      · refine gk_block (by kernel_rfl) ?_
        refine gk_pick [1, 6, 7, 10, 11, 12, 16, 17, 18] (K' := [(1, .slice A1_0 a1.length n1_0), (6, .slice A28 x20.length n29), (7, .bool false), (10, .slice A0_0 a0.length n0_0), (11, .int .i64 (a0.length : Int)), (12, .int .i64 s7), (16, .slice A1_0 a1.length n1_0), (17, .int .i64 (a1.length : Int)), (18, .int .i64 0)]) (by kernel_rfl) ?_
        intro t hK
        refine gc_loop (tocsinref26_Within_l46 a1 x20) (fun s37 t I' L' => I12 ≤ I' ∧ L = L' ∧ Knows 32 [(1, .slice A1_0 a1.length n1_0), (6, .slice A28 x20.length n29), (7, .bool s37.1), (10, .slice A0_0 a0.length n0_0), (11, .int .i64 (a0.length : Int)), (12, .int .i64 s7), (16, .slice A1_0 a1.length n1_0), (17, .int .i64 (a1.length : Int)), (18, .int .i64 s37.2)] t) (by kernel_rfl) ?_ hl36 ⟨(Imm.refl _), rfl, hK⟩
        rintro s37 o38 t I42 L' hb39 ⟨hI40, rfl, hK41⟩
        unfold tocsinref26_Within_l46 at hb39
        refine gk_at hK41 ?_
        refine gk_seq (by kernel_rfl) ?_
        refine gk_region (by kernel_rfl) ?_
        refine gl_pure 1 [1, 6, 7, 10, 11, 12, 16, 17, 18, 19] (K' := [(1, .slice A1_0 a1.length n1_0), (6, .slice A28 x20.length n29), (7, .bool s37.1), (10, .slice A0_0 a0.length n0_0), (11, .int .i64 (a0.length : Int)), (12, .int .i64 s7), (16, .slice A1_0 a1.length n1_0), (17, .int .i64 (a1.length : Int)), (18, .int .i64 s37.2), (19, .bool (decide (s37.2 < (a1.length : Int))))]) (by kernel_rfl) ?_
        refine gl_atE (by kernel_rfl) ?_
        refine ge_seq ?_
        refine gk_seq (by kernel_rfl) ?_
        refine gk_cond (b := (decide (s37.2 < (a1.length : Int)))) (by kernel_rfl) (by kernel_rfl) (fun hc48 => ?_) (fun hc48 => ?_)
        · have hb39 := cond_t hc48 hb39
          refine gk_skip (by kernel_rfl) ?_
          refine ge_seq ?_
          refine gk_seq (by kernel_rfl) ?_
          refine gk_block (by kernel_rfl) ?_
          refine gk_seq (by kernel_rfl) ?_
          refine gk_region (by kernel_rfl) ?_
          obtain ⟨x49, hx50, hb39⟩ := bind_some hb39
          obtain ⟨p51, cs52, hR53, hA54, ha55⟩ := RepS.ixAt hx50 (hf1_0.mono (Imm.trans hI10 hI40))
          have hi56 := ix_some hx50
          obtain ⟨A57, n58, rfl, hf59⟩ := sl_open hR53
          refine gl_indexAddrF (c := n1_0) (T' := 22) (e := 36) (xs := (.tmp 16)) (xi := (.tmp 18)) (kd := .i64) ha55 hi56.1 hi56.2.1 (by kernel_rfl) (by kernel_rfl) (by kernel_rfl) (by kernel_rfl) (by kernel_rfl) ?_
          refine gl_load (T' := 36) (xp := (.tmp 20)) (p := p51) (c := .slice A57 x49.length n58) (n := 1) (by kernel_rfl) (by kernel_rfl) (by kernel_rfl) (by kernel_rfl) hA54 ?_
          refine gl_pure 1 [1, 6, 7, 9, 10, 11, 12, 16, 17, 18] (K' := [(1, .slice A1_0 a1.length n1_0), (6, .slice A28 x20.length n29), (7, .bool s37.1), (9, .slice A57 x49.length n58), (10, .slice A0_0 a0.length n0_0), (11, .int .i64 (a0.length : Int)), (12, .int .i64 s7), (16, .slice A1_0 a1.length n1_0), (17, .int .i64 (a1.length : Int)), (18, .int .i64 s37.2)]) (by kernel_rfl) ?_
          refine gl_atE (by kernel_rfl) ?_
          refine ge_seq ?_
          obtain ⟨j60, hj61, hb39⟩ := bind_some hb39
          refine gk_join (fun t I' L' => I42 ≤ I' ∧ L = L' ∧ Knows 32 [(1, .slice A1_0 a1.length n1_0), (6, .slice A28 x20.length n29), (7, .bool j60), (10, .slice A0_0 a0.length n0_0), (11, .int .i64 (a0.length : Int)), (12, .int .i64 s7), (16, .slice A1_0 a1.length n1_0), (17, .int .i64 (a1.length : Int)), (18, .int .i64 s37.2)] t) ?_ ?_
          · refine gk_region (by kernel_rfl) ?_
            refine gl_pure 2 [1, 6, 9, 10, 11, 12, 16, 17, 18, 23] (K' := [(1, .slice A1_0 a1.length n1_0), (6, .slice A28 x20.length n29), (9, .slice A57 x49.length n58), (10, .slice A0_0 a0.length n0_0), (11, .int .i64 (a0.length : Int)), (12, .int .i64 s7), (16, .slice A1_0 a1.length n1_0), (17, .int .i64 (a1.length : Int)), (18, .int .i64 s37.2), (23, .bool s37.1)]) (by kernel_rfl) ?_
            refine gl_case 23 (b := s37.1) (by kernel_rfl) (fun hc65 => ?_) (fun hc65 => ?_)
            · have hj61 := cond_t hc65 hj61
              refine gl_pure 5 [1, 6, 7, 10, 11, 12, 16, 17, 18] (K' := [(1, .slice A1_0 a1.length n1_0), (6, .slice A28 x20.length n29), (7, .bool true), (10, .slice A0_0 a0.length n0_0), (11, .int .i64 (a0.length : Int)), (12, .int .i64 s7), (16, .slice A1_0 a1.length n1_0), (17, .int .i64 (a1.length : Int)), (18, .int .i64 s37.2)]) (by kernel_rfl) ?_
              refine gl_atE (by kernel_rfl) ?_
              obtain rfl := some_inj hj61
              exact ge_mid fun t ht => ⟨(Imm.refl _), rfl, ht.pick (l := [1, 6, 7, 10, 11, 12, 16, 17, 18]) (by kernel_rfl)⟩
            · have hj61 := cond_f hc65 hj61
              refine gl_pure 2 [1, 6, 10, 11, 12, 16, 17, 18, 23, 24, 25] (K' := [(1, .slice A1_0 a1.length n1_0), (6, .slice A28 x20.length n29), (10, .slice A0_0 a0.length n0_0), (11, .int .i64 (a0.length : Int)), (12, .int .i64 s7), (16, .slice A1_0 a1.length n1_0), (17, .int .i64 (a1.length : Int)), (18, .int .i64 s37.2), (23, .bool false), (24, .slice A28 x20.length n29), (25, .slice A57 x49.length n58)]) (by kernel_rfl) ?_
              obtain ⟨y66, hx67, hj61⟩ := bind_some hj61
              refine gl_callQ (by kernel_rfl) (tocsinref04_Same_walk (r := y66) (hf30.mono hI40) hf59 hx67 _) ?_
              refine gl_pure 2 [1, 6, 7, 10, 11, 12, 16, 17, 18] (K' := [(1, .slice A1_0 a1.length n1_0), (6, .slice A28 x20.length n29), (7, .bool y66), (10, .slice A0_0 a0.length n0_0), (11, .int .i64 (a0.length : Int)), (12, .int .i64 s7), (16, .slice A1_0 a1.length n1_0), (17, .int .i64 (a1.length : Int)), (18, .int .i64 s37.2)]) (by kernel_rfl) ?_
              refine gl_atE (by kernel_rfl) ?_
              obtain rfl := some_inj hj61
              exact ge_mid fun t ht => ⟨(Imm.refl _), rfl, ht.pick (l := [1, 6, 7, 10, 11, 12, 16, 17, 18]) (by kernel_rfl)⟩
          · rintro t I64 L' ⟨hI62, rfl, hK63⟩
            refine ge_at hK63 ?_
            refine ge_block_normal ?_
            refine ge_seq ?_
            refine gk_region (by kernel_rfl) ?_
            refine gl_pure 2 [1, 6, 7, 10, 11, 12, 16, 17, 18] (K' := [(1, .slice A1_0 a1.length n1_0), (6, .slice A28 x20.length n29), (7, .bool j60), (10, .slice A0_0 a0.length n0_0), (11, .int .i64 (a0.length : Int)), (12, .int .i64 s7), (16, .slice A1_0 a1.length n1_0), (17, .int .i64 (a1.length : Int)), (18, .int .i64 (IntKind.wrap .i64 (s37.2 + 1)))]) (by kernel_rfl) ?_
            refine gl_atE (by kernel_rfl) ?_
            obtain rfl := some_inj hb39
            exact ge_round fun t ht => ⟨(Imm.trans hI40 hI62), rfl, ht.pick (l := [1, 6, 7, 10, 11, 12, 16, 17, 18]) (by kernel_rfl)⟩
        · have hb39 := cond_f hc48 hb39
          refine gk_exit (by kernel_rfl) ?_
          refine ge_seq_exit ?_
          obtain rfl := some_inj hb39
          refine ge_round_out (fun hrr => ?_) (by intro h; cases h)
          obtain rfl := hrr
          refine ge_block_hit (by kernel_rfl) ?_
          exact ge_mid fun t ht => ⟨hI40, rfl, ht.pick (l := [1, 7, 10, 11, 12]) (by kernel_rfl)⟩
      · rintro t I45 L' ⟨hI43, rfl, hK44⟩
        refine ge_at hK44 ?_
        refine ge_seq ?_
        refine gk_seq (by kernel_rfl) ?_
        refine gk_region (by kernel_rfl) ?_
        refine gl_pure 2 [1, 10, 11, 12, 30] (K' := [(1, .slice A1_0 a1.length n1_0), (10, .slice A0_0 a0.length n0_0), (11, .int .i64 (a0.length : Int)), (12, .int .i64 s7), (30, .bool (!r35))]) (by kernel_rfl) ?_
        refine gl_atE (by kernel_rfl) ?_
        refine ge_seq ?_
        refine gk_cond (b := (!r35)) (by kernel_rfl) (by kernel_rfl) (fun hc68 => ?_) (fun hc68 => ?_)
        · have hb9 := cond_t hc68 hb9
          refine gk_seq (by kernel_rfl) ?_
          refine gk_region (by kernel_rfl) ?_
          refine gl_pure 1 [4] (K' := [(4, .bool false)]) (by kernel_rfl) ?_
          refine gl_atE (by kernel_rfl) ?_
          refine ge_seq ?_
          refine gk_ret (by kernel_rfl) ?_
          refine ge_block_ret ?_
          refine ge_seq_ret ?_
          obtain rfl := some_inj hb9
          refine ge_round_out (fun hrr => ?_) (by intro h; cases h)
          obtain rfl := hrr
          refine ge_block_ret ?_
          refine ge_seq_ret ?_
          refine ge_seq_ret ?_
          obtain rfl := some_inj hr
          exact ge_result trivial (ResOk.tmp (by kernel_rfl) ResOk.nil) (Imm.trans hI10 hI43) ⟨rfl, rfl⟩
        · have hb9 := cond_f hc68 hb9
          refine gk_skip (by kernel_rfl) ?_
          refine ge_block_normal ?_
          refine ge_seq ?_
          refine gk_region (by kernel_rfl) ?_
          refine gl_pure 2 [1, 10, 11, 12] (K' := [(1, .slice A1_0 a1.length n1_0), (10, .slice A0_0 a0.length n0_0), (11, .int .i64 (a0.length : Int)), (12, .int .i64 (IntKind.wrap .i64 (s7 + 1)))]) (by kernel_rfl) ?_
          refine gl_atE (by kernel_rfl) ?_
          obtain rfl := some_inj hb9
          exact ge_round fun t ht => ⟨(Imm.trans hI10 hI43), rfl, ht.pick (l := [1, 10, 11, 12]) (by kernel_rfl)⟩
    · have hb9 := cond_f hc19 hb9
      refine gk_exit (by kernel_rfl) ?_
      refine ge_seq_exit ?_
      obtain rfl := some_inj hb9
      refine ge_round_out (fun hrr => ?_) (by intro h; cases h)
      obtain rfl := hrr
      refine ge_block_hit (by kernel_rfl) ?_
      exact ge_mid fun t ht => ⟨_, rfl, hI10, rfl, ht.pick (l := []) (by kernel_rfl)⟩
  · rintro t I16 L' ⟨r13, rfl, hI14, rfl, hK15⟩
    refine ge_at hK15 ?_
    refine ge_seq ?_
    refine gk_seq (by kernel_rfl) ?_
    refine gk_region (by kernel_rfl) ?_
    refine gl_pure 1 [4] (K' := [(4, .bool true)]) (by kernel_rfl) ?_
    refine gl_atE (by kernel_rfl) ?_
    refine ge_seq ?_
    refine gk_ret (by kernel_rfl) ?_
    obtain rfl := some_inj hr
    exact ge_result trivial (ResOk.tmp (by kernel_rfl) ResOk.nil) hI14 ⟨rfl, rfl⟩
/-! 9 tocsinlaw26_NflogOnce  -/
noncomputable def tocsinlaw26_NflogOnce (a0 : S23) (a1 : Int) (a2 : Int) (a3 : List S79) : Option Bool :=
  Option.bind (nflog_Log_Put (⟨(⟨nflog_New.f0.f0⟩ : S75)⟩ : S77) a0) fun (y10 : Int × S77) =>
  bif ((((((y10.1 != 0) || (decide (a1 < 1))) || (decide (a1 > 1099511627776))) || (decide (a2 < 0))) || (decide (a2 > 1099511627776))) || (decide (a0.f2 > 1124800395214848))) then
  (Option.bind (bif (y10.1 == 0) then
      (Option.bind tocsinlaw26_awake fun (y36 : Bool) =>
        some y36)
      else
      (bif ((nflog_Log_Len y10.2) == 0) then
        (Option.bind tocsinlaw26_awake fun (y42 : Bool) =>
          some y42)
        else
        (some false))) fun (j30 : Bool) =>
    some j30)
  else
  (Option.bind (nflog_Log_Needs y10.2 a0.f0 a0.f1 (IntKind.wrap .i64 (a0.f2 + a2)) a1 a0.f3 a0.f4) fun (y44 : Bool × Int) =>
    bif ((y44.2 != 0) || (!(y44.1 == ((decide ((a0.f3.length : Int) > 0)) && (decide (a2 ≥ a1)))))) then
    (some false)
    else
    (Option.bind (nflog_Sorted [a3]) fun (y70 : (List (List S79)) × Int) =>
      bif (y70.2 != 0) then
      (Option.bind tocsinlaw26_awake fun (y80 : Bool) =>
        some y80)
      else
      (Option.bind (tocsinlaw26_lent a0.f3) fun (y82 : (List (List S79))) =>
        Option.bind (app y82 y70.1) fun (zs91 : List (List S79)) =>
        Option.bind (nflog_Log_Needs y10.2 a0.f0 a0.f1 (IntKind.wrap .i64 (a0.f2 + a2)) a1 zs91 a0.f4) fun (y101 : Bool × Int) =>
        Option.bind (bif (y101.2 != 0) then
          (some true)
          else
          (Option.bind (tocsinref26_Within y70.1 a0.f3) fun (y112 : Bool) =>
            bif (!y112) then
            (some (!y101.1))
            else
            (some false))) fun (j106 : Bool) =>
        bif j106 then
        (some false)
        else
        (Option.bind (nflog_Log_Needs y10.2 a0.f0 a0.f1 (IntKind.wrap .i64 (a0.f2 + a2)) a1 [] a0.f4) fun (y116 : Bool × Int) =>
          Option.bind (bif (y116.2 == 0) then
            (bif (y116.1 == (decide ((a0.f3.length : Int) > 0))) then
              (Option.bind tocsinlaw26_awake fun (y128 : Bool) =>
                some y128)
              else
              (some false))
            else
            (some false)) fun (j121 : Bool) =>
          some j121))))
theorem tocsinlaw26_NflogOnce_walk {a0 : S23} {A0_3 : Option Addr} {n0_3 : Nat} {A0_4 : Option Addr} {n0_4 : Nat} {a1 : Int} {a2 : Int} {a3 : List S79} {A3_0 : Option Addr} {n3_0 : Nat} {I : Imm} {r : Bool} (hG : Gl I)  (hf0_3 : RepS (Kd.sl kS79) I A0_3 n0_3 a0.f3) (hf0_4 : RepS (Kd.sl kS79) I A0_4 n0_4 a0.f4)  (hf3_0 : RepS kS79 I A3_0 n3_0 a3) (hr : tocsinlaw26_NflogOnce a0 a1 a2 a3 = some r) (L : Own) :
    CallsTo Tryd.prog 9 #[.agg #[.string a0.f0, .string a0.f1, .int .i64 a0.f2, .slice A0_3 a0.f3.length n0_3, .slice A0_4 a0.f4.length n0_4], .int .i64 a1, .int .i64 a2, .slice A3_0 a3.length n3_0] I L (fun v I' L' => v = .bool r ∧ L = L') := by
  unfold tocsinlaw26_NflogOnce at hr
  refine callsTo_body (N := 164) Tryd.func9 (by kernel_rfl) (by kernel_rfl) (by kernel_rfl) ?_
  refine gk_pick [0, 1, 2, 3] (K' := [(0, .agg #[.string a0.f0, .string a0.f1, .int .i64 a0.f2, .slice A0_3 a0.f3.length n0_3, .slice A0_4 a0.f4.length n0_4]), (1, .int .i64 a1), (2, .int .i64 a2), (3, .slice A3_0 a3.length n3_0)]) (by kernel_rfl) ?_
  refine gk_seq (by kernel_rfl) ?_
  refine gk_region (by kernel_rfl) ?_
  refine gl_box (T' := 24) (x := (.tmp 0)) (v := .agg #[.string a0.f0, .string a0.f1, .int .i64 a0.f2, .slice A0_3 a0.f3.length n0_3, .slice A0_4 a0.f4.length n0_4]) (cs := #[.string a0.f0, .string a0.f1, .int .i64 a0.f2, .slice A0_3 a0.f3.length n0_3, .slice A0_4 a0.f4.length n0_4]) (by kernel_rfl) (by kernel_rfl) (by kernel_rfl) (by kernel_rfl) (fun g1 => ?_)
  refine gl_pure 1 [1, 2, 3, 4] (K' := [(1, .int .i64 a1), (2, .int .i64 a2), (3, .slice A3_0 a3.length n3_0), (4, .pointer (some ⟨g1, 0, none⟩))]) (by kernel_rfl) ?_
  refine gl_atE (by kernel_rfl) ?_
  refine ge_seq ?_
  refine gk_seq (by kernel_rfl) ?_
  refine gk_region (by kernel_rfl) ?_
  refine gl_call (by kernel_rfl) (nflog_New_walk (r := nflog_New)  rfl _) ?_
  rintro v I2 L3 hI4 ⟨g5, A6, c7, C8, hO9, rfl, rfl⟩
  refine gl_pure 1 [1, 2, 3, 4, 9] (K' := [(1, .int .i64 a1), (2, .int .i64 a2), (3, .slice A3_0 a3.length n3_0), (4, .pointer (some ⟨g1, 0, none⟩)), (9, .pointer (some ⟨g5, 0, none⟩))]) (by kernel_rfl) ?_
  refine gl_atE (by kernel_rfl) ?_
  refine ge_seq ?_
  refine gk_seq (by kernel_rfl) ?_
  refine gk_seq (by kernel_rfl) ?_
  refine gk_region (by kernel_rfl) ?_
  refine gl_pure 2 [1, 2, 3, 4, 9, 24] (K' := [(1, .int .i64 a1), (2, .int .i64 a2), (3, .slice A3_0 a3.length n3_0), (4, .pointer (some ⟨g1, 0, none⟩)), (9, .pointer (some ⟨g5, 0, none⟩)), (24, .bool false)]) (by kernel_rfl) ?_
  refine gl_atE (by kernel_rfl) ?_
  refine ge_seq ?_
  refine gk_cond (b := false) (by kernel_rfl) (by kernel_rfl) (fun h => by cases h) (fun _ => ?_)
  refine gk_skip (by kernel_rfl) ?_
  refine ge_seq ?_
  refine gk_seq (by kernel_rfl) ?_
  refine gk_region (by kernel_rfl) ?_
  refine gl_pure 1 [1, 2, 3, 4, 9, 25] (K' := [(1, .int .i64 a1), (2, .int .i64 a2), (3, .slice A3_0 a3.length n3_0), (4, .pointer (some ⟨g1, 0, none⟩)), (9, .pointer (some ⟨g5, 0, none⟩)), (25, .pointer (some ⟨g5, 0, none⟩))]) (by kernel_rfl) ?_
  refine gl_loadB (T' := 24) (xp := (.tmp 4)) (v := .agg #[.string a0.f0, .string a0.f1, .int .i64 a0.f2, .slice A0_3 a0.f3.length n0_3, .slice A0_4 a0.f4.length n0_4]) (g := g1) (off := 0) (cs := #[.string a0.f0, .string a0.f1, .int .i64 a0.f2, .slice A0_3 a0.f3.length n0_3, .slice A0_4 a0.f4.length n0_4]) (e := 24) (fz := (0, 0)) (by kernel_rfl) (by kernel_rfl) (by kernel_rfl) (List.mem_cons_of_mem _ (List.mem_append_right _ List.mem_cons_self)) (by kernel_rfl) ?_
  obtain ⟨y10, hx11, hr⟩ := bind_some hr
  refine gl_call (by kernel_rfl) (nflog_Log_Put_walk (r := y10) (g0 := g5) (T0 := 78) (A0_0 := A6) (c0_0 := c7) (C0_0 := C8) (a0 := (⟨(⟨nflog_New.f0.f0⟩ : S75)⟩ : S77)) (hG.mono hI4) hO9 (hf0_3.mono hI4) (hf0_4.mono hI4) hx11 _) ?_
  rintro v I12 L13 hI14 ⟨A15, c16, C17, hO18, rfl, rfl⟩
  refine gl_pure 1 [1, 2, 3, 4, 9, 10] (K' := [(1, .int .i64 a1), (2, .int .i64 a2), (3, .slice A3_0 a3.length n3_0), (4, .pointer (some ⟨g1, 0, none⟩)), (9, .pointer (some ⟨g5, 0, none⟩)), (10, .int .i64 y10.1)]) (by kernel_rfl) ?_
  refine gl_atE (by kernel_rfl) ?_
  refine ge_seq ?_
  refine gk_seq (by kernel_rfl) ?_
  refine gk_seq (by kernel_rfl) ?_
  obtain ⟨b21, hb22⟩ : ∃ z, z = ((((((y10.1 != 0) || (decide (a1 < 1))) || (decide (a1 > 1099511627776))) || (decide (a2 < 0))) || (decide (a2 > 1099511627776))) || (decide (a0.f2 > 1124800395214848))) := ⟨_, rfl⟩
  refine gk_join (fun t I' L' => I12 ≤ I' ∧ (g5, .cells #[.slice A15 y10.2.f0.f0.length c16] 78) :: (C17 ++ ((g1, .cells #[.string a0.f0, .string a0.f1, .int .i64 a0.f2, .slice A0_3 a0.f3.length n0_3, .slice A0_4 a0.f4.length n0_4] 24) :: L)) = L' ∧ Knows 164 [(1, .int .i64 a1), (2, .int .i64 a2), (3, .slice A3_0 a3.length n3_0), (4, .pointer (some ⟨g1, 0, none⟩)), (9, .pointer (some ⟨g5, 0, none⟩)), (10, .int .i64 y10.1), (50, .bool b21)] t) ?_ ?_
  · refine gk_region (by kernel_rfl) ?_
    refine gl_pure 3 [1, 2, 3, 4, 9, 10, 30] (K' := [(1, .int .i64 a1), (2, .int .i64 a2), (3, .slice A3_0 a3.length n3_0), (4, .pointer (some ⟨g1, 0, none⟩)), (9, .pointer (some ⟨g5, 0, none⟩)), (10, .int .i64 y10.1), (30, .bool (y10.1 != 0))]) (by kernel_rfl) ?_
    refine gl_case 30 (b := (y10.1 != 0)) (by kernel_rfl) (fun hc24 => ?_) (fun hc24 => ?_)
    · refine gl_pure 20 [1, 2, 3, 4, 9, 10, 50] (K' := [(1, .int .i64 a1), (2, .int .i64 a2), (3, .slice A3_0 a3.length n3_0), (4, .pointer (some ⟨g1, 0, none⟩)), (9, .pointer (some ⟨g5, 0, none⟩)), (10, .int .i64 y10.1), (50, .bool true)]) (by kernel_rfl) ?_
      refine gl_atE (by kernel_rfl) ?_
      exact ge_mid fun t ht => ⟨(Imm.refl _), rfl, by rw [(show b21 = true from hb22.trans (by rw [hc24]; try rfl))]; exact ht.pick (l := [1, 2, 3, 4, 9, 10, 50]) (by kernel_rfl)⟩
    · refine gl_pure 4 [1, 2, 3, 4, 9, 10, 34] (K' := [(1, .int .i64 a1), (2, .int .i64 a2), (3, .slice A3_0 a3.length n3_0), (4, .pointer (some ⟨g1, 0, none⟩)), (9, .pointer (some ⟨g5, 0, none⟩)), (10, .int .i64 y10.1), (34, .bool (decide (a1 < 1)))]) (by kernel_rfl) ?_
      refine gl_case 34 (b := (decide (a1 < 1))) (by kernel_rfl) (fun hc25 => ?_) (fun hc25 => ?_)
      · refine gl_pure 16 [1, 2, 3, 4, 9, 10, 50] (K' := [(1, .int .i64 a1), (2, .int .i64 a2), (3, .slice A3_0 a3.length n3_0), (4, .pointer (some ⟨g1, 0, none⟩)), (9, .pointer (some ⟨g5, 0, none⟩)), (10, .int .i64 y10.1), (50, .bool true)]) (by kernel_rfl) ?_
        refine gl_atE (by kernel_rfl) ?_
        exact ge_mid fun t ht => ⟨(Imm.refl _), rfl, by rw [(show b21 = true from hb22.trans (by rw [hc24, hc25]; try rfl))]; exact ht.pick (l := [1, 2, 3, 4, 9, 10, 50]) (by kernel_rfl)⟩
      · refine gl_pure 4 [1, 2, 3, 4, 9, 10, 38] (K' := [(1, .int .i64 a1), (2, .int .i64 a2), (3, .slice A3_0 a3.length n3_0), (4, .pointer (some ⟨g1, 0, none⟩)), (9, .pointer (some ⟨g5, 0, none⟩)), (10, .int .i64 y10.1), (38, .bool (decide (a1 > 1099511627776)))]) (by kernel_rfl) ?_
        refine gl_case 38 (b := (decide (a1 > 1099511627776))) (by kernel_rfl) (fun hc26 => ?_) (fun hc26 => ?_)
        · refine gl_pure 12 [1, 2, 3, 4, 9, 10, 50] (K' := [(1, .int .i64 a1), (2, .int .i64 a2), (3, .slice A3_0 a3.length n3_0), (4, .pointer (some ⟨g1, 0, none⟩)), (9, .pointer (some ⟨g5, 0, none⟩)), (10, .int .i64 y10.1), (50, .bool true)]) (by kernel_rfl) ?_
          refine gl_atE (by kernel_rfl) ?_
          exact ge_mid fun t ht => ⟨(Imm.refl _), rfl, by rw [(show b21 = true from hb22.trans (by rw [hc24, hc25, hc26]; try rfl))]; exact ht.pick (l := [1, 2, 3, 4, 9, 10, 50]) (by kernel_rfl)⟩
        · refine gl_pure 4 [1, 2, 3, 4, 9, 10, 42] (K' := [(1, .int .i64 a1), (2, .int .i64 a2), (3, .slice A3_0 a3.length n3_0), (4, .pointer (some ⟨g1, 0, none⟩)), (9, .pointer (some ⟨g5, 0, none⟩)), (10, .int .i64 y10.1), (42, .bool (decide (a2 < 0)))]) (by kernel_rfl) ?_
          refine gl_case 42 (b := (decide (a2 < 0))) (by kernel_rfl) (fun hc27 => ?_) (fun hc27 => ?_)
          · refine gl_pure 8 [1, 2, 3, 4, 9, 10, 50] (K' := [(1, .int .i64 a1), (2, .int .i64 a2), (3, .slice A3_0 a3.length n3_0), (4, .pointer (some ⟨g1, 0, none⟩)), (9, .pointer (some ⟨g5, 0, none⟩)), (10, .int .i64 y10.1), (50, .bool true)]) (by kernel_rfl) ?_
            refine gl_atE (by kernel_rfl) ?_
            exact ge_mid fun t ht => ⟨(Imm.refl _), rfl, by rw [(show b21 = true from hb22.trans (by rw [hc24, hc25, hc26, hc27]; try rfl))]; exact ht.pick (l := [1, 2, 3, 4, 9, 10, 50]) (by kernel_rfl)⟩
          · refine gl_pure 4 [1, 2, 3, 4, 9, 10, 46] (K' := [(1, .int .i64 a1), (2, .int .i64 a2), (3, .slice A3_0 a3.length n3_0), (4, .pointer (some ⟨g1, 0, none⟩)), (9, .pointer (some ⟨g5, 0, none⟩)), (10, .int .i64 y10.1), (46, .bool (decide (a2 > 1099511627776)))]) (by kernel_rfl) ?_
            refine gl_case 46 (b := (decide (a2 > 1099511627776))) (by kernel_rfl) (fun hc28 => ?_) (fun hc28 => ?_)
            · refine gl_pure 4 [1, 2, 3, 4, 9, 10, 50] (K' := [(1, .int .i64 a1), (2, .int .i64 a2), (3, .slice A3_0 a3.length n3_0), (4, .pointer (some ⟨g1, 0, none⟩)), (9, .pointer (some ⟨g5, 0, none⟩)), (10, .int .i64 y10.1), (50, .bool true)]) (by kernel_rfl) ?_
              refine gl_atE (by kernel_rfl) ?_
              exact ge_mid fun t ht => ⟨(Imm.refl _), rfl, by rw [(show b21 = true from hb22.trans (by rw [hc24, hc25, hc26, hc27, hc28]; try rfl))]; exact ht.pick (l := [1, 2, 3, 4, 9, 10, 50]) (by kernel_rfl)⟩
            · refine gl_pure 1 [1, 2, 3, 4, 9, 10, 46, 47] (K' := [(1, .int .i64 a1), (2, .int .i64 a2), (3, .slice A3_0 a3.length n3_0), (4, .pointer (some ⟨g1, 0, none⟩)), (9, .pointer (some ⟨g5, 0, none⟩)), (10, .int .i64 y10.1), (46, .bool false), (47, .pointer (some ⟨g1, 2, none⟩))]) (by kernel_rfl) ?_
              refine gl_loadB (T' := 2) (xp := (.tmp 47)) (v := .int .i64 a0.f2) (g := g1) (off := 2) (cs := #[.string a0.f0, .string a0.f1, .int .i64 a0.f2, .slice A0_3 a0.f3.length n0_3, .slice A0_4 a0.f4.length n0_4]) (e := 24) (fz := (0, 0)) (by kernel_rfl) (by kernel_rfl) (by kernel_rfl) (List.mem_cons_of_mem _ (List.mem_append_right _ List.mem_cons_self)) (by kernel_rfl) ?_
              refine gl_pure 2 [1, 2, 3, 4, 9, 10, 50] (K' := [(1, .int .i64 a1), (2, .int .i64 a2), (3, .slice A3_0 a3.length n3_0), (4, .pointer (some ⟨g1, 0, none⟩)), (9, .pointer (some ⟨g5, 0, none⟩)), (10, .int .i64 y10.1), (50, .bool (decide (a0.f2 > 1124800395214848)))]) (by kernel_rfl) ?_
              refine gl_atE (by kernel_rfl) ?_
              exact ge_mid fun t ht => ⟨(Imm.refl _), rfl, by rw [(show b21 = (decide (a0.f2 > 1124800395214848)) from hb22.trans (by rw [hc24, hc25, hc26, hc27, hc28]; try rfl))]; exact ht.pick (l := [1, 2, 3, 4, 9, 10, 50]) (by kernel_rfl)⟩
  · rintro t I23 L' ⟨hI19, rfl, hK20⟩
    subst hb22
    refine ge_at hK20 ?_
    refine ge_seq ?_
    refine gk_cond (b := ((((((y10.1 != 0) || (decide (a1 < 1))) || (decide (a1 > 1099511627776))) || (decide (a2 < 0))) || (decide (a2 > 1099511627776))) || (decide (a0.f2 > 1124800395214848)))) (by kernel_rfl) (by kernel_rfl) (fun hc29 => ?_) (fun hc29 => ?_)
    · have hr := cond_t hc29 hr
      refine gk_seq (by kernel_rfl) ?_
      obtain ⟨j30, hj31, hr⟩ := bind_some hr
      refine gk_join (fun t I' L' => I23 ≤ I' ∧ L = L' ∧ Knows 164 [(8, .bool j30)] t) ?_ ?_
      · refine gk_region (by kernel_rfl) ?_
        refine gl_pure 3 [9, 53] (K' := [(9, .pointer (some ⟨g5, 0, none⟩)), (53, .bool (y10.1 == 0))]) (by kernel_rfl) ?_
        refine gl_case 53 (b := (y10.1 == 0)) (by kernel_rfl) (fun hc35 => ?_) (fun hc35 => ?_)
        · have hj31 := cond_t hc35 hj31
          refine gl_pure 5 [58] (K' := [(58, .bool true)]) (by kernel_rfl) ?_
          obtain ⟨y36, hx37, hj31⟩ := bind_some hj31
          refine gl_callQ (by kernel_rfl) (tocsinlaw26_awake_walk (r := y36) (hG.mono (Imm.trans (Imm.trans hI4 hI14) hI19)) hx37 _) ?_
          refine gl_pure 2 [8] (K' := [(8, .bool y36)]) (by kernel_rfl) ?_
          refine gl_reord (D := L) (Reord.skip (Reord.skipC (Reord.skip (Reord.refl _)))) ?_
          refine gl_atE (by kernel_rfl) ?_
          obtain rfl := some_inj hj31
          exact ge_mid fun t ht => ⟨(Imm.refl _), rfl, ht.pick (l := [8]) (by kernel_rfl)⟩
        · have hj31 := cond_f hc35 hj31
          refine gl_pure 1 [53, 54] (K' := [(53, .bool false), (54, .pointer (some ⟨g5, 0, none⟩))]) (by kernel_rfl) ?_
          refine gl_call (by kernel_rfl) (nflog_Log_Len_walk (r := (nflog_Log_Len y10.2)) (g0 := g5) (T0 := 78) (A0_0 := A15) (c0_0 := c16) (C0_0 := C17) (a0 := y10.2) (hO18.mono hI19) rfl _) ?_
          rintro v I38 L39 hI40 ⟨rfl, rfl⟩
          refine gl_pure 3 [58] (K' := [(58, .bool ((nflog_Log_Len y10.2) == 0))]) (by kernel_rfl) ?_
          refine gl_case 58 (b := ((nflog_Log_Len y10.2) == 0)) (by kernel_rfl) (fun hc41 => ?_) (fun hc41 => ?_)
          · have hj31 := cond_t hc41 hj31
            obtain ⟨y42, hx43, hj31⟩ := bind_some hj31
            refine gl_callQ (by kernel_rfl) (tocsinlaw26_awake_walk (r := y42) (hG.mono (Imm.trans (Imm.trans (Imm.trans hI4 hI14) hI19) hI40)) hx43 _) ?_
            refine gl_pure 2 [8] (K' := [(8, .bool y42)]) (by kernel_rfl) ?_
            refine gl_reord (D := L) (Reord.skip (Reord.skipC (Reord.skip (Reord.refl _)))) ?_
            refine gl_atE (by kernel_rfl) ?_
            obtain rfl := some_inj hj31
            exact ge_mid fun t ht => ⟨hI40, rfl, ht.pick (l := [8]) (by kernel_rfl)⟩
          · have hj31 := cond_f hc41 hj31
            refine gl_pure 3 [8] (K' := [(8, .bool false)]) (by kernel_rfl) ?_
            refine gl_reord (D := L) (Reord.skip (Reord.skipC (Reord.skip (Reord.refl _)))) ?_
            refine gl_atE (by kernel_rfl) ?_
            obtain rfl := some_inj hj31
            exact ge_mid fun t ht => ⟨hI40, rfl, ht.pick (l := [8]) (by kernel_rfl)⟩
      · rintro t I34 L' ⟨hI32, rfl, hK33⟩
        refine ge_at hK33 ?_
        refine ge_seq ?_
        refine gk_ret (by kernel_rfl) ?_
        refine ge_seq_ret ?_
        obtain rfl := some_inj hr
        exact ge_result trivial (ResOk.tmp (by kernel_rfl) ResOk.nil) (Imm.trans (Imm.trans (Imm.trans hI4 hI14) hI19) hI32) ⟨rfl, rfl⟩
    · have hr := cond_f hc29 hr
      refine gk_skip (by kernel_rfl) ?_
      refine ge_seq ?_
      refine gk_seq (by kernel_rfl) ?_
      refine gk_region (by kernel_rfl) ?_
      refine gl_pure 1 [1, 2, 3, 4, 9, 61] (K' := [(1, .int .i64 a1), (2, .int .i64 a2), (3, .slice A3_0 a3.length n3_0), (4, .pointer (some ⟨g1, 0, none⟩)), (9, .pointer (some ⟨g5, 0, none⟩)), (61, .pointer (some ⟨g1, 2, none⟩))]) (by kernel_rfl) ?_
      refine gl_loadB (T' := 2) (xp := (.tmp 61)) (v := .int .i64 a0.f2) (g := g1) (off := 2) (cs := #[.string a0.f0, .string a0.f1, .int .i64 a0.f2, .slice A0_3 a0.f3.length n0_3, .slice A0_4 a0.f4.length n0_4]) (e := 24) (fz := (0, 0)) (by kernel_rfl) (by kernel_rfl) (by kernel_rfl) (List.mem_cons_of_mem _ (List.mem_append_right _ List.mem_cons_self)) (by kernel_rfl) ?_
      refine gl_pure 3 [1, 2, 3, 4, 9, 11] (K' := [(1, .int .i64 a1), (2, .int .i64 a2), (3, .slice A3_0 a3.length n3_0), (4, .pointer (some ⟨g1, 0, none⟩)), (9, .pointer (some ⟨g5, 0, none⟩)), (11, .int .i64 (IntKind.wrap .i64 (a0.f2 + a2)))]) (by kernel_rfl) ?_
      refine gl_atE (by kernel_rfl) ?_
      refine ge_seq ?_
      refine gk_seq (by kernel_rfl) ?_
      refine gk_region (by kernel_rfl) ?_
      refine gl_pure 2 [1, 2, 3, 4, 9, 11, 66, 67] (K' := [(1, .int .i64 a1), (2, .int .i64 a2), (3, .slice A3_0 a3.length n3_0), (4, .pointer (some ⟨g1, 0, none⟩)), (9, .pointer (some ⟨g5, 0, none⟩)), (11, .int .i64 (IntKind.wrap .i64 (a0.f2 + a2))), (66, .pointer (some ⟨g5, 0, none⟩)), (67, .pointer (some ⟨g1, 0, none⟩))]) (by kernel_rfl) ?_
      refine gl_loadB (T' := 9) (xp := (.tmp 67)) (v := .string a0.f0) (g := g1) (off := 0) (cs := #[.string a0.f0, .string a0.f1, .int .i64 a0.f2, .slice A0_3 a0.f3.length n0_3, .slice A0_4 a0.f4.length n0_4]) (e := 24) (fz := (0, 0)) (by kernel_rfl) (by kernel_rfl) (by kernel_rfl) (List.mem_cons_of_mem _ (List.mem_append_right _ List.mem_cons_self)) (by kernel_rfl) ?_
      refine gl_pure 1 [1, 2, 3, 4, 9, 11, 66, 68, 69] (K' := [(1, .int .i64 a1), (2, .int .i64 a2), (3, .slice A3_0 a3.length n3_0), (4, .pointer (some ⟨g1, 0, none⟩)), (9, .pointer (some ⟨g5, 0, none⟩)), (11, .int .i64 (IntKind.wrap .i64 (a0.f2 + a2))), (66, .pointer (some ⟨g5, 0, none⟩)), (68, .string a0.f0), (69, .pointer (some ⟨g1, 1, none⟩))]) (by kernel_rfl) ?_
      refine gl_loadB (T' := 9) (xp := (.tmp 69)) (v := .string a0.f1) (g := g1) (off := 1) (cs := #[.string a0.f0, .string a0.f1, .int .i64 a0.f2, .slice A0_3 a0.f3.length n0_3, .slice A0_4 a0.f4.length n0_4]) (e := 24) (fz := (0, 0)) (by kernel_rfl) (by kernel_rfl) (by kernel_rfl) (List.mem_cons_of_mem _ (List.mem_append_right _ List.mem_cons_self)) (by kernel_rfl) ?_
      refine gl_pure 3 [1, 2, 3, 4, 9, 11, 66, 68, 70, 71, 72, 73] (K' := [(1, .int .i64 a1), (2, .int .i64 a2), (3, .slice A3_0 a3.length n3_0), (4, .pointer (some ⟨g1, 0, none⟩)), (9, .pointer (some ⟨g5, 0, none⟩)), (11, .int .i64 (IntKind.wrap .i64 (a0.f2 + a2))), (66, .pointer (some ⟨g5, 0, none⟩)), (68, .string a0.f0), (70, .string a0.f1), (71, .int .i64 (IntKind.wrap .i64 (a0.f2 + a2))), (72, .int .i64 a1), (73, .pointer (some ⟨g1, 3, none⟩))]) (by kernel_rfl) ?_
      refine gl_loadB (T' := 22) (xp := (.tmp 73)) (v := .slice A0_3 a0.f3.length n0_3) (g := g1) (off := 3) (cs := #[.string a0.f0, .string a0.f1, .int .i64 a0.f2, .slice A0_3 a0.f3.length n0_3, .slice A0_4 a0.f4.length n0_4]) (e := 24) (fz := (0, 0)) (by kernel_rfl) (by kernel_rfl) (by kernel_rfl) (List.mem_cons_of_mem _ (List.mem_append_right _ List.mem_cons_self)) (by kernel_rfl) ?_
      refine gl_pure 1 [1, 2, 3, 4, 9, 11, 66, 68, 70, 71, 72, 74, 75] (K' := [(1, .int .i64 a1), (2, .int .i64 a2), (3, .slice A3_0 a3.length n3_0), (4, .pointer (some ⟨g1, 0, none⟩)), (9, .pointer (some ⟨g5, 0, none⟩)), (11, .int .i64 (IntKind.wrap .i64 (a0.f2 + a2))), (66, .pointer (some ⟨g5, 0, none⟩)), (68, .string a0.f0), (70, .string a0.f1), (71, .int .i64 (IntKind.wrap .i64 (a0.f2 + a2))), (72, .int .i64 a1), (74, .slice A0_3 a0.f3.length n0_3), (75, .pointer (some ⟨g1, 4, none⟩))]) (by kernel_rfl) ?_
      refine gl_loadB (T' := 22) (xp := (.tmp 75)) (v := .slice A0_4 a0.f4.length n0_4) (g := g1) (off := 4) (cs := #[.string a0.f0, .string a0.f1, .int .i64 a0.f2, .slice A0_3 a0.f3.length n0_3, .slice A0_4 a0.f4.length n0_4]) (e := 24) (fz := (0, 0)) (by kernel_rfl) (by kernel_rfl) (by kernel_rfl) (List.mem_cons_of_mem _ (List.mem_append_right _ List.mem_cons_self)) (by kernel_rfl) ?_
      obtain ⟨y44, hx45, hr⟩ := bind_some hr
      refine gl_call (by kernel_rfl) (nflog_Log_Needs_walk (r := y44) (g0 := g5) (T0 := 78) (A0_0 := A15) (c0_0 := c16) (C0_0 := C17) (a0 := y10.2) (hG.mono (Imm.trans (Imm.trans hI4 hI14) hI19)) (hO18.mono hI19) (hf0_3.mono (Imm.trans (Imm.trans hI4 hI14) hI19)) (hf0_4.mono (Imm.trans (Imm.trans hI4 hI14) hI19)) hx45 _) ?_
      rintro v I46 L47 hI48 ⟨rfl, rfl⟩
      refine gl_pure 5 [1, 2, 3, 4, 9, 11, 12, 13] (K' := [(1, .int .i64 a1), (2, .int .i64 a2), (3, .slice A3_0 a3.length n3_0), (4, .pointer (some ⟨g1, 0, none⟩)), (9, .pointer (some ⟨g5, 0, none⟩)), (11, .int .i64 (IntKind.wrap .i64 (a0.f2 + a2))), (12, .bool y44.1), (13, .int .i64 y44.2)]) (by kernel_rfl) ?_
      refine gl_atE (by kernel_rfl) ?_
      refine ge_seq ?_
      refine gk_seq (by kernel_rfl) ?_
      obtain ⟨b51, hb52⟩ : ∃ z, z = ((decide ((a0.f3.length : Int) > 0)) && (decide (a2 ≥ a1))) := ⟨_, rfl⟩
      refine gk_join (fun t I' L' => I46 ≤ I' ∧ (g5, .cells #[.slice A15 y10.2.f0.f0.length c16] 78) :: (C17 ++ ((g1, .cells #[.string a0.f0, .string a0.f1, .int .i64 a0.f2, .slice A0_3 a0.f3.length n0_3, .slice A0_4 a0.f4.length n0_4] 24) :: L)) = L' ∧ Knows 164 [(1, .int .i64 a1), (3, .slice A3_0 a3.length n3_0), (4, .pointer (some ⟨g1, 0, none⟩)), (9, .pointer (some ⟨g5, 0, none⟩)), (11, .int .i64 (IntKind.wrap .i64 (a0.f2 + a2))), (12, .bool y44.1), (13, .int .i64 y44.2), (14, .bool b51)] t) ?_ ?_
      · refine gk_region (by kernel_rfl) ?_
        refine gl_pure 1 [1, 2, 3, 4, 9, 11, 12, 13, 80] (K' := [(1, .int .i64 a1), (2, .int .i64 a2), (3, .slice A3_0 a3.length n3_0), (4, .pointer (some ⟨g1, 0, none⟩)), (9, .pointer (some ⟨g5, 0, none⟩)), (11, .int .i64 (IntKind.wrap .i64 (a0.f2 + a2))), (12, .bool y44.1), (13, .int .i64 y44.2), (80, .pointer (some ⟨g1, 3, none⟩))]) (by kernel_rfl) ?_
        refine gl_loadB (T' := 22) (xp := (.tmp 80)) (v := .slice A0_3 a0.f3.length n0_3) (g := g1) (off := 3) (cs := #[.string a0.f0, .string a0.f1, .int .i64 a0.f2, .slice A0_3 a0.f3.length n0_3, .slice A0_4 a0.f4.length n0_4]) (e := 24) (fz := (0, 0)) (by kernel_rfl) (by kernel_rfl) (by kernel_rfl) (List.mem_cons_of_mem _ (List.mem_append_right _ List.mem_cons_self)) (by kernel_rfl) ?_
        refine gl_pure 3 [1, 2, 3, 4, 9, 11, 12, 13, 84] (K' := [(1, .int .i64 a1), (2, .int .i64 a2), (3, .slice A3_0 a3.length n3_0), (4, .pointer (some ⟨g1, 0, none⟩)), (9, .pointer (some ⟨g5, 0, none⟩)), (11, .int .i64 (IntKind.wrap .i64 (a0.f2 + a2))), (12, .bool y44.1), (13, .int .i64 y44.2), (84, .bool (decide ((a0.f3.length : Int) > 0)))]) (by kernel_rfl) ?_
        refine gl_case 84 (b := (decide ((a0.f3.length : Int) > 0))) (by kernel_rfl) (fun hc54 => ?_) (fun hc54 => ?_)
        · refine gl_pure 5 [1, 3, 4, 9, 11, 12, 13, 14] (K' := [(1, .int .i64 a1), (3, .slice A3_0 a3.length n3_0), (4, .pointer (some ⟨g1, 0, none⟩)), (9, .pointer (some ⟨g5, 0, none⟩)), (11, .int .i64 (IntKind.wrap .i64 (a0.f2 + a2))), (12, .bool y44.1), (13, .int .i64 y44.2), (14, .bool (decide (a2 ≥ a1)))]) (by kernel_rfl) ?_
          refine gl_atE (by kernel_rfl) ?_
          exact ge_mid fun t ht => ⟨(Imm.refl _), rfl, by rw [(show b51 = (decide (a2 ≥ a1)) from hb52.trans (by rw [hc54]; try rfl))]; exact ht.pick (l := [1, 3, 4, 9, 11, 12, 13, 14]) (by kernel_rfl)⟩
        · refine gl_pure 5 [1, 3, 4, 9, 11, 12, 13, 14] (K' := [(1, .int .i64 a1), (3, .slice A3_0 a3.length n3_0), (4, .pointer (some ⟨g1, 0, none⟩)), (9, .pointer (some ⟨g5, 0, none⟩)), (11, .int .i64 (IntKind.wrap .i64 (a0.f2 + a2))), (12, .bool y44.1), (13, .int .i64 y44.2), (14, .bool false)]) (by kernel_rfl) ?_
          refine gl_atE (by kernel_rfl) ?_
          exact ge_mid fun t ht => ⟨(Imm.refl _), rfl, by rw [(show b51 = false from hb52.trans (by rw [hc54]; try rfl))]; exact ht.pick (l := [1, 3, 4, 9, 11, 12, 13, 14]) (by kernel_rfl)⟩
      · rintro t I53 L' ⟨hI49, rfl, hK50⟩
        subst hb52
        refine ge_at hK50 ?_
        refine ge_seq ?_
        refine gk_seq (by kernel_rfl) ?_
        refine gk_seq (by kernel_rfl) ?_
        obtain ⟨b57, hb58⟩ : ∃ z, z = ((y44.2 != 0) || (!(y44.1 == ((decide ((a0.f3.length : Int) > 0)) && (decide (a2 ≥ a1)))))) := ⟨_, rfl⟩
        refine gk_join (fun t I' L' => I53 ≤ I' ∧ (g5, .cells #[.slice A15 y10.2.f0.f0.length c16] 78) :: (C17 ++ ((g1, .cells #[.string a0.f0, .string a0.f1, .int .i64 a0.f2, .slice A0_3 a0.f3.length n0_3, .slice A0_4 a0.f4.length n0_4] 24) :: L)) = L' ∧ Knows 164 [(1, .int .i64 a1), (3, .slice A3_0 a3.length n3_0), (4, .pointer (some ⟨g1, 0, none⟩)), (9, .pointer (some ⟨g5, 0, none⟩)), (11, .int .i64 (IntKind.wrap .i64 (a0.f2 + a2))), (95, .bool b57)] t) ?_ ?_
        · refine gk_region (by kernel_rfl) ?_
          refine gl_pure 3 [1, 3, 4, 9, 11, 12, 14, 91] (K' := [(1, .int .i64 a1), (3, .slice A3_0 a3.length n3_0), (4, .pointer (some ⟨g1, 0, none⟩)), (9, .pointer (some ⟨g5, 0, none⟩)), (11, .int .i64 (IntKind.wrap .i64 (a0.f2 + a2))), (12, .bool y44.1), (14, .bool ((decide ((a0.f3.length : Int) > 0)) && (decide (a2 ≥ a1)))), (91, .bool (y44.2 != 0))]) (by kernel_rfl) ?_
          refine gl_case 91 (b := (y44.2 != 0)) (by kernel_rfl) (fun hc60 => ?_) (fun hc60 => ?_)
          · refine gl_pure 4 [1, 3, 4, 9, 11, 95] (K' := [(1, .int .i64 a1), (3, .slice A3_0 a3.length n3_0), (4, .pointer (some ⟨g1, 0, none⟩)), (9, .pointer (some ⟨g5, 0, none⟩)), (11, .int .i64 (IntKind.wrap .i64 (a0.f2 + a2))), (95, .bool true)]) (by kernel_rfl) ?_
            refine gl_atE (by kernel_rfl) ?_
            exact ge_mid fun t ht => ⟨(Imm.refl _), rfl, by rw [(show b57 = true from hb58.trans (by rw [hc60]; try rfl))]; exact ht.pick (l := [1, 3, 4, 9, 11, 95]) (by kernel_rfl)⟩
          · refine gl_pure 4 [1, 3, 4, 9, 11, 95] (K' := [(1, .int .i64 a1), (3, .slice A3_0 a3.length n3_0), (4, .pointer (some ⟨g1, 0, none⟩)), (9, .pointer (some ⟨g5, 0, none⟩)), (11, .int .i64 (IntKind.wrap .i64 (a0.f2 + a2))), (95, .bool (!(y44.1 == ((decide ((a0.f3.length : Int) > 0)) && (decide (a2 ≥ a1))))))]) (by kernel_rfl) ?_
            refine gl_atE (by kernel_rfl) ?_
            exact ge_mid fun t ht => ⟨(Imm.refl _), rfl, by rw [(show b57 = (!(y44.1 == ((decide ((a0.f3.length : Int) > 0)) && (decide (a2 ≥ a1))))) from hb58.trans (by rw [hc60]; try rfl))]; exact ht.pick (l := [1, 3, 4, 9, 11, 95]) (by kernel_rfl)⟩
        · rintro t I59 L' ⟨hI55, rfl, hK56⟩
          subst hb58
          refine ge_at hK56 ?_
          refine ge_seq ?_
          refine gk_cond (b := ((y44.2 != 0) || (!(y44.1 == ((decide ((a0.f3.length : Int) > 0)) && (decide (a2 ≥ a1))))))) (by kernel_rfl) (by kernel_rfl) (fun hc61 => ?_) (fun hc61 => ?_)
          · have hr := cond_t hc61 hr
            refine gk_seq (by kernel_rfl) ?_
            refine gk_region (by kernel_rfl) ?_
            refine gl_pure 1 [8] (K' := [(8, .bool false)]) (by kernel_rfl) ?_
            refine gl_atE (by kernel_rfl) ?_
            refine ge_seq ?_
            refine gk_reord (D := L) (Reord.skip (Reord.skipC (Reord.skip (Reord.refl _)))) ?_
            refine gk_ret (by kernel_rfl) ?_
            refine ge_seq_ret ?_
            obtain rfl := some_inj hr
            exact ge_result trivial (ResOk.tmp (by kernel_rfl) ResOk.nil) (Imm.trans (Imm.trans (Imm.trans (Imm.trans (Imm.trans hI4 hI14) hI19) hI48) hI49) hI55) ⟨rfl, rfl⟩
          · have hr := cond_f hc61 hr
            refine gk_skip (by kernel_rfl) ?_
            refine ge_seq ?_
            refine gk_seq (by kernel_rfl) ?_
            refine gk_region (by kernel_rfl) ?_
            refine gl_pure 1 [1, 4, 9, 11, 97] (K' := [(1, .int .i64 a1), (4, .pointer (some ⟨g1, 0, none⟩)), (9, .pointer (some ⟨g5, 0, none⟩)), (11, .int .i64 (IntKind.wrap .i64 (a0.f2 + a2))), (97, .slice A3_0 a3.length n3_0)]) (by kernel_rfl) ?_
            refine gl_buildSlice (T' := 22) (e := 36) (n := 1) (len := 1) (parts := #[(0, (.tmp 97))]) (l := [(0, .slice A3_0 a3.length n3_0)]) (cs := #[.slice A3_0 a3.length n3_0]) (by kernel_rfl) (by kernel_rfl) (by kernel_rfl) (by kernel_rfl) (by kernel_rfl) (fun g62 => ?_)
            have hO63 : OwnS (Kd.sl kS79) 36 I59 (some ⟨g62, 0, none⟩) 1 [a3] [(g62, .cells #[.slice A3_0 a3.length n3_0] 36)] := OwnS.lit (row_cons (l := [.slice A3_0 a3.length n3_0]) ⟨_, _, rfl, (hf3_0.mono (Imm.trans (Imm.trans (Imm.trans (Imm.trans (Imm.trans hI4 hI14) hI19) hI48) hI49) hI55))⟩ (row_nil _ _)) rfl rfl rfl
            refine gl_reord (D := [(g62, .cells #[.slice A3_0 a3.length n3_0] 36)] ++ ((g5, .cells #[.slice A15 y10.2.f0.f0.length c16] 78) :: (C17 ++ ((g1, .cells #[.string a0.f0, .string a0.f1, .int .i64 a0.f2, .slice A0_3 a0.f3.length n0_3, .slice A0_4 a0.f4.length n0_4] 24) :: L)))) (Reord.refl _) ?_
            refine gl_rest (Tk.step (Upd.rmC _ _) (Tk.nil _)) (fun J66 hJ67 hC68 => ?_)
            have hf69 := (OwnS.rest hO63 hJ67 hC68.left)
            obtain ⟨y70, hx71, hr⟩ := bind_some hr
            refine gl_call (by kernel_rfl) (nflog_Sorted_walk (r := y70) (hG.mono (Imm.trans (Imm.trans (Imm.trans (Imm.trans (Imm.trans (Imm.trans hI4 hI14) hI19) hI48) hI49) hI55) hJ67)) hf69 hx71 _) ?_
            rintro v I72 L73 hI74 ⟨A75, c76, C77, hO78, rfl, rfl⟩
            refine gl_pure 5 [1, 4, 9, 11, 15, 16] (K' := [(1, .int .i64 a1), (4, .pointer (some ⟨g1, 0, none⟩)), (9, .pointer (some ⟨g5, 0, none⟩)), (11, .int .i64 (IntKind.wrap .i64 (a0.f2 + a2))), (15, .slice A75 y70.1.length c76), (16, .int .i64 y70.2)]) (by kernel_rfl) ?_
            refine gl_atE (by kernel_rfl) ?_
            refine ge_seq ?_
            refine gk_seq (by kernel_rfl) ?_
            refine gk_seq (by kernel_rfl) ?_
            refine gk_region (by kernel_rfl) ?_
            refine gl_pure 2 [1, 4, 9, 11, 15, 103] (K' := [(1, .int .i64 a1), (4, .pointer (some ⟨g1, 0, none⟩)), (9, .pointer (some ⟨g5, 0, none⟩)), (11, .int .i64 (IntKind.wrap .i64 (a0.f2 + a2))), (15, .slice A75 y70.1.length c76), (103, .bool (y70.2 != 0))]) (by kernel_rfl) ?_
            refine gl_atE (by kernel_rfl) ?_
            refine ge_seq ?_
            refine gk_cond (b := (y70.2 != 0)) (by kernel_rfl) (by kernel_rfl) (fun hc79 => ?_) (fun hc79 => ?_)
            · have hr := cond_t hc79 hr
              refine gk_seq (by kernel_rfl) ?_
              refine gk_region (by kernel_rfl) ?_
              obtain ⟨y80, hx81, hr⟩ := bind_some hr
              refine gl_callQ (by kernel_rfl) (tocsinlaw26_awake_walk (r := y80) (hG.mono (Imm.trans (Imm.trans (Imm.trans (Imm.trans (Imm.trans (Imm.trans (Imm.trans hI4 hI14) hI19) hI48) hI49) hI55) hJ67) hI74)) hx81 _) ?_
              refine gl_pure 1 [8] (K' := [(8, .bool y80)]) (by kernel_rfl) ?_
              refine gl_atE (by kernel_rfl) ?_
              refine ge_seq ?_
              refine gk_reord (D := L) (Reord.skipC (Reord.skip (Reord.skipC (Reord.skip (Reord.refl _))))) ?_
              refine gk_ret (by kernel_rfl) ?_
              refine ge_seq_ret ?_
              obtain rfl := some_inj hr
              exact ge_result trivial (ResOk.tmp (by kernel_rfl) ResOk.nil) (Imm.trans (Imm.trans (Imm.trans (Imm.trans (Imm.trans (Imm.trans (Imm.trans hI4 hI14) hI19) hI48) hI49) hI55) hJ67) hI74) ⟨rfl, rfl⟩
            · have hr := cond_f hc79 hr
              refine gk_skip (by kernel_rfl) ?_
              refine ge_seq ?_
              refine gk_seq (by kernel_rfl) ?_
              refine gk_region (by kernel_rfl) ?_
              refine gl_pure 1 [1, 4, 9, 11, 15, 105] (K' := [(1, .int .i64 a1), (4, .pointer (some ⟨g1, 0, none⟩)), (9, .pointer (some ⟨g5, 0, none⟩)), (11, .int .i64 (IntKind.wrap .i64 (a0.f2 + a2))), (15, .slice A75 y70.1.length c76), (105, .pointer (some ⟨g1, 3, none⟩))]) (by kernel_rfl) ?_
              refine gl_loadB (T' := 22) (xp := (.tmp 105)) (v := .slice A0_3 a0.f3.length n0_3) (g := g1) (off := 3) (cs := #[.string a0.f0, .string a0.f1, .int .i64 a0.f2, .slice A0_3 a0.f3.length n0_3, .slice A0_4 a0.f4.length n0_4]) (e := 24) (fz := (0, 0)) (by kernel_rfl) (by kernel_rfl) (by kernel_rfl) (List.mem_append_right _ (List.mem_cons_of_mem _ (List.mem_append_right _ List.mem_cons_self))) (by kernel_rfl) ?_
              obtain ⟨y82, hx83, hr⟩ := bind_some hr
              refine gl_call (by kernel_rfl) (tocsinlaw26_lent_walk (r := y82) (hf0_3.mono (Imm.trans (Imm.trans (Imm.trans (Imm.trans (Imm.trans (Imm.trans (Imm.trans hI4 hI14) hI19) hI48) hI49) hI55) hJ67) hI74)) hx83 _) ?_
              rintro v I84 L85 hI86 ⟨A87, c88, C89, hO90, rfl, rfl⟩
              refine gl_pure 1 [1, 4, 9, 11, 15, 17] (K' := [(1, .int .i64 a1), (4, .pointer (some ⟨g1, 0, none⟩)), (9, .pointer (some ⟨g5, 0, none⟩)), (11, .int .i64 (IntKind.wrap .i64 (a0.f2 + a2))), (15, .slice A75 y70.1.length c76), (17, .slice A87 y82.length c88)]) (by kernel_rfl) ?_
              refine gl_atE (by kernel_rfl) ?_
              refine ge_seq ?_
              refine gk_seq (by kernel_rfl) ?_
              refine gk_region (by kernel_rfl) ?_
              refine gl_pure 2 [1, 4, 9, 11, 15, 108, 109] (K' := [(1, .int .i64 a1), (4, .pointer (some ⟨g1, 0, none⟩)), (9, .pointer (some ⟨g5, 0, none⟩)), (11, .int .i64 (IntKind.wrap .i64 (a0.f2 + a2))), (15, .slice A75 y70.1.length c76), (108, .slice A87 y82.length c88), (109, .slice A75 y70.1.length c76)]) (by kernel_rfl) ?_
              obtain ⟨zs91, hz92, hr⟩ := bind_some hr
              refine gl_append (xv := .slice A75 y70.1.length c76) (d := (Kd.sl kS79)) (t := 22) (tx := 22) (e := 36) (s := (.tmp 108)) (x := (.tmp 109)) (xs := y82) (fun X => X ++ (C77 ++ ((g5, .cells #[.slice A15 y10.2.f0.f0.length c16] 78) :: (C17 ++ ((g1, .cells #[.string a0.f0, .string a0.f1, .int .i64 a0.f2, .slice A0_3 a0.f3.length n0_3, .slice A0_4 a0.f4.length n0_4] 24) :: L))))) hz92 (by kernel_rfl) (by kernel_rfl) (by kernel_rfl) (by kernel_rfl) (by kernel_rfl) (by kernel_rfl) (fun X => (Upd.head _ X _)) hO90 (SrcOk.slice (c := c76) (e := 36) (n := 1) (OwnS.rd (hO78.mono hI86) (Upd.app _ (Upd.selfC _ _))) (by kernel_rfl)) (fun A93 n94 C95 hO96 => ?_)
              refine gl_pure 1 [1, 4, 9, 11, 15, 17] (K' := [(1, .int .i64 a1), (4, .pointer (some ⟨g1, 0, none⟩)), (9, .pointer (some ⟨g5, 0, none⟩)), (11, .int .i64 (IntKind.wrap .i64 (a0.f2 + a2))), (15, .slice A75 y70.1.length c76), (17, .slice A93 zs91.length n94)]) (by kernel_rfl) ?_
              refine gl_atE (by kernel_rfl) ?_
              refine ge_seq ?_
              refine gk_seq (by kernel_rfl) ?_
              refine gk_region (by kernel_rfl) ?_
              refine gl_pure 2 [1, 4, 9, 11, 15, 17, 112, 113] (K' := [(1, .int .i64 a1), (4, .pointer (some ⟨g1, 0, none⟩)), (9, .pointer (some ⟨g5, 0, none⟩)), (11, .int .i64 (IntKind.wrap .i64 (a0.f2 + a2))), (15, .slice A75 y70.1.length c76), (17, .slice A93 zs91.length n94), (112, .pointer (some ⟨g5, 0, none⟩)), (113, .pointer (some ⟨g1, 0, none⟩))]) (by kernel_rfl) ?_
              refine gl_loadB (T' := 9) (xp := (.tmp 113)) (v := .string a0.f0) (g := g1) (off := 0) (cs := #[.string a0.f0, .string a0.f1, .int .i64 a0.f2, .slice A0_3 a0.f3.length n0_3, .slice A0_4 a0.f4.length n0_4]) (e := 24) (fz := (0, 0)) (by kernel_rfl) (by kernel_rfl) (by kernel_rfl) (List.mem_append_right _ (List.mem_append_right _ (List.mem_cons_of_mem _ (List.mem_append_right _ List.mem_cons_self)))) (by kernel_rfl) ?_
              refine gl_pure 1 [1, 4, 9, 11, 15, 17, 112, 114, 115] (K' := [(1, .int .i64 a1), (4, .pointer (some ⟨g1, 0, none⟩)), (9, .pointer (some ⟨g5, 0, none⟩)), (11, .int .i64 (IntKind.wrap .i64 (a0.f2 + a2))), (15, .slice A75 y70.1.length c76), (17, .slice A93 zs91.length n94), (112, .pointer (some ⟨g5, 0, none⟩)), (114, .string a0.f0), (115, .pointer (some ⟨g1, 1, none⟩))]) (by kernel_rfl) ?_
              refine gl_loadB (T' := 9) (xp := (.tmp 115)) (v := .string a0.f1) (g := g1) (off := 1) (cs := #[.string a0.f0, .string a0.f1, .int .i64 a0.f2, .slice A0_3 a0.f3.length n0_3, .slice A0_4 a0.f4.length n0_4]) (e := 24) (fz := (0, 0)) (by kernel_rfl) (by kernel_rfl) (by kernel_rfl) (List.mem_append_right _ (List.mem_append_right _ (List.mem_cons_of_mem _ (List.mem_append_right _ List.mem_cons_self)))) (by kernel_rfl) ?_
              refine gl_pure 4 [1, 4, 9, 11, 15, 112, 114, 116, 117, 118, 119, 120] (K' := [(1, .int .i64 a1), (4, .pointer (some ⟨g1, 0, none⟩)), (9, .pointer (some ⟨g5, 0, none⟩)), (11, .int .i64 (IntKind.wrap .i64 (a0.f2 + a2))), (15, .slice A75 y70.1.length c76), (112, .pointer (some ⟨g5, 0, none⟩)), (114, .string a0.f0), (116, .string a0.f1), (117, .int .i64 (IntKind.wrap .i64 (a0.f2 + a2))), (118, .int .i64 a1), (119, .slice A93 zs91.length n94), (120, .pointer (some ⟨g1, 4, none⟩))]) (by kernel_rfl) ?_
              refine gl_loadB (T' := 22) (xp := (.tmp 120)) (v := .slice A0_4 a0.f4.length n0_4) (g := g1) (off := 4) (cs := #[.string a0.f0, .string a0.f1, .int .i64 a0.f2, .slice A0_3 a0.f3.length n0_3, .slice A0_4 a0.f4.length n0_4]) (e := 24) (fz := (0, 0)) (by kernel_rfl) (by kernel_rfl) (by kernel_rfl) (List.mem_append_right _ (List.mem_append_right _ (List.mem_cons_of_mem _ (List.mem_append_right _ List.mem_cons_self)))) (by kernel_rfl) ?_
              refine gl_rest (Tk.step (Upd.rmC _ _) (Tk.nil _)) (fun J97 hJ98 hC99 => ?_)
              have hf100 := (OwnS.rest hO96 hJ98 hC99.left)
              obtain ⟨y101, hx102, hr⟩ := bind_some hr
              refine gl_reord (D := (g5, .cells #[.slice A15 y10.2.f0.f0.length c16] 78) :: (C17 ++ (C77 ++ ((g1, .cells #[.string a0.f0, .string a0.f1, .int .i64 a0.f2, .slice A0_3 a0.f3.length n0_3, .slice A0_4 a0.f4.length n0_4] 24) :: L)))) (Reord.step1 (Upd.app _ (Upd.rm1 _ _)) (Reord.step (Upd.app _ (Upd.rmC _ _)) (Reord.step (Upd.rmC _ _) (Reord.step1 (Upd.rm1 _ _) (Reord.refl _))))) ?_
              refine gl_call (by kernel_rfl) (nflog_Log_Needs_walk (r := y101) (g0 := g5) (T0 := 78) (A0_0 := A15) (c0_0 := c16) (C0_0 := C17) (a0 := y10.2) (hG.mono (Imm.trans (Imm.trans (Imm.trans (Imm.trans (Imm.trans (Imm.trans (Imm.trans (Imm.trans (Imm.trans hI4 hI14) hI19) hI48) hI49) hI55) hJ67) hI74) hI86) hJ98)) (hO18.mono (Imm.trans (Imm.trans (Imm.trans (Imm.trans (Imm.trans (Imm.trans (Imm.trans hI19 hI48) hI49) hI55) hJ67) hI74) hI86) hJ98)) hf100 (hf0_4.mono (Imm.trans (Imm.trans (Imm.trans (Imm.trans (Imm.trans (Imm.trans (Imm.trans (Imm.trans (Imm.trans hI4 hI14) hI19) hI48) hI49) hI55) hJ67) hI74) hI86) hJ98)) hx102 _) ?_
              rintro v I103 L104 hI105 ⟨rfl, rfl⟩
              refine gl_pure 5 [1, 4, 9, 11, 15, 18, 19] (K' := [(1, .int .i64 a1), (4, .pointer (some ⟨g1, 0, none⟩)), (9, .pointer (some ⟨g5, 0, none⟩)), (11, .int .i64 (IntKind.wrap .i64 (a0.f2 + a2))), (15, .slice A75 y70.1.length c76), (18, .bool y101.1), (19, .int .i64 y101.2)]) (by kernel_rfl) ?_
              refine gl_atE (by kernel_rfl) ?_
              refine ge_seq ?_
              refine gk_seq (by kernel_rfl) ?_
              refine gk_seq (by kernel_rfl) ?_
              obtain ⟨j106, hj107, hr⟩ := bind_some hr
              refine gk_join (fun t I' L' => I103 ≤ I' ∧ (g5, .cells #[.slice A15 y10.2.f0.f0.length c16] 78) :: (C17 ++ ((g1, .cells #[.string a0.f0, .string a0.f1, .int .i64 a0.f2, .slice A0_3 a0.f3.length n0_3, .slice A0_4 a0.f4.length n0_4] 24) :: L)) = L' ∧ Knows 164 [(1, .int .i64 a1), (4, .pointer (some ⟨g1, 0, none⟩)), (9, .pointer (some ⟨g5, 0, none⟩)), (11, .int .i64 (IntKind.wrap .i64 (a0.f2 + a2))), (137, .bool j106)] t) ?_ ?_
              · refine gk_region (by kernel_rfl) ?_
                refine gl_pure 3 [1, 4, 9, 11, 15, 18, 127] (K' := [(1, .int .i64 a1), (4, .pointer (some ⟨g1, 0, none⟩)), (9, .pointer (some ⟨g5, 0, none⟩)), (11, .int .i64 (IntKind.wrap .i64 (a0.f2 + a2))), (15, .slice A75 y70.1.length c76), (18, .bool y101.1), (127, .bool (y101.2 != 0))]) (by kernel_rfl) ?_
                refine gl_case 127 (b := (y101.2 != 0)) (by kernel_rfl) (fun hc111 => ?_) (fun hc111 => ?_)
                · have hj107 := cond_t hc111 hj107
                  refine gl_pure 10 [1, 4, 9, 11, 137] (K' := [(1, .int .i64 a1), (4, .pointer (some ⟨g1, 0, none⟩)), (9, .pointer (some ⟨g5, 0, none⟩)), (11, .int .i64 (IntKind.wrap .i64 (a0.f2 + a2))), (137, .bool true)]) (by kernel_rfl) ?_
                  refine gl_reord (D := (g5, .cells #[.slice A15 y10.2.f0.f0.length c16] 78) :: (C17 ++ ((g1, .cells #[.string a0.f0, .string a0.f1, .int .i64 a0.f2, .slice A0_3 a0.f3.length n0_3, .slice A0_4 a0.f4.length n0_4] 24) :: L))) (Reord.step1 (Upd.rm1 _ _) (Reord.step (Upd.rmC _ _) (Reord.step1 (Upd.app _ (Upd.rm1 _ _)) (Reord.skipC (Reord.refl _))))) ?_
                  refine gl_atE (by kernel_rfl) ?_
                  obtain rfl := some_inj hj107
                  exact ge_mid fun t ht => ⟨(Imm.refl _), rfl, ht.pick (l := [1, 4, 9, 11, 137]) (by kernel_rfl)⟩
                · have hj107 := cond_f hc111 hj107
                  refine gl_pure 2 [1, 4, 9, 11, 18, 127, 128, 129] (K' := [(1, .int .i64 a1), (4, .pointer (some ⟨g1, 0, none⟩)), (9, .pointer (some ⟨g5, 0, none⟩)), (11, .int .i64 (IntKind.wrap .i64 (a0.f2 + a2))), (18, .bool y101.1), (127, .bool false), (128, .slice A75 y70.1.length c76), (129, .pointer (some ⟨g1, 3, none⟩))]) (by kernel_rfl) ?_
                  refine gl_loadB (T' := 22) (xp := (.tmp 129)) (v := .slice A0_3 a0.f3.length n0_3) (g := g1) (off := 3) (cs := #[.string a0.f0, .string a0.f1, .int .i64 a0.f2, .slice A0_3 a0.f3.length n0_3, .slice A0_4 a0.f4.length n0_4]) (e := 24) (fz := (0, 0)) (by kernel_rfl) (by kernel_rfl) (by kernel_rfl) (List.mem_cons_of_mem _ (List.mem_append_right _ (List.mem_append_right _ List.mem_cons_self))) (by kernel_rfl) ?_
                  obtain ⟨y112, hx113, hj107⟩ := bind_some hj107
                  refine gl_callB (r := .bool y112) (Tk.step (Upd.one _ (Upd.app _ (Upd.rmC _ _))) (Tk.nil _)) (by kernel_rfl) (fun J hJ hC => tocsinref26_Within_walk (r := y112) (OwnS.rest (hO78.mono (Imm.trans (Imm.trans hI86 hJ98) hI105)) hJ hC.left) (hf0_3.mono (Imm.trans (Imm.trans (Imm.trans (Imm.trans (Imm.trans (Imm.trans (Imm.trans (Imm.trans (Imm.trans (Imm.trans (Imm.trans hI4 hI14) hI19) hI48) hI49) hI55) hJ67) hI74) hI86) hJ98) hI105) hJ)) hx113 _) ?_
                  refine gl_pure 2 [1, 4, 9, 11, 18, 127, 133] (K' := [(1, .int .i64 a1), (4, .pointer (some ⟨g1, 0, none⟩)), (9, .pointer (some ⟨g5, 0, none⟩)), (11, .int .i64 (IntKind.wrap .i64 (a0.f2 + a2))), (18, .bool y101.1), (127, .bool false), (133, .bool (!y112))]) (by kernel_rfl) ?_
                  refine gl_case 133 (b := (!y112)) (by kernel_rfl) (fun hc114 => ?_) (fun hc114 => ?_)
                  · have hj107 := cond_t hc114 hj107
                    refine gl_pure 4 [1, 4, 9, 11, 137] (K' := [(1, .int .i64 a1), (4, .pointer (some ⟨g1, 0, none⟩)), (9, .pointer (some ⟨g5, 0, none⟩)), (11, .int .i64 (IntKind.wrap .i64 (a0.f2 + a2))), (137, .bool (!y101.1))]) (by kernel_rfl) ?_
                    refine gl_reord (D := (g5, .cells #[.slice A15 y10.2.f0.f0.length c16] 78) :: (C17 ++ ((g1, .cells #[.string a0.f0, .string a0.f1, .int .i64 a0.f2, .slice A0_3 a0.f3.length n0_3, .slice A0_4 a0.f4.length n0_4] 24) :: L))) (Reord.step1 (Upd.rm1 _ _) (Reord.step (Upd.rmC _ _) (Reord.step1 (Upd.app _ (Upd.rm1 _ _)) (Reord.skipC (Reord.refl _))))) ?_
                    refine gl_atE (by kernel_rfl) ?_
                    obtain rfl := some_inj hj107
                    exact ge_mid fun t ht => ⟨(Imm.refl _), rfl, ht.pick (l := [1, 4, 9, 11, 137]) (by kernel_rfl)⟩
                  · have hj107 := cond_f hc114 hj107
                    refine gl_pure 4 [1, 4, 9, 11, 137] (K' := [(1, .int .i64 a1), (4, .pointer (some ⟨g1, 0, none⟩)), (9, .pointer (some ⟨g5, 0, none⟩)), (11, .int .i64 (IntKind.wrap .i64 (a0.f2 + a2))), (137, .bool false)]) (by kernel_rfl) ?_
                    refine gl_reord (D := (g5, .cells #[.slice A15 y10.2.f0.f0.length c16] 78) :: (C17 ++ ((g1, .cells #[.string a0.f0, .string a0.f1, .int .i64 a0.f2, .slice A0_3 a0.f3.length n0_3, .slice A0_4 a0.f4.length n0_4] 24) :: L))) (Reord.step1 (Upd.rm1 _ _) (Reord.step (Upd.rmC _ _) (Reord.step1 (Upd.app _ (Upd.rm1 _ _)) (Reord.skipC (Reord.refl _))))) ?_
                    refine gl_atE (by kernel_rfl) ?_
                    obtain rfl := some_inj hj107
                    exact ge_mid fun t ht => ⟨(Imm.refl _), rfl, ht.pick (l := [1, 4, 9, 11, 137]) (by kernel_rfl)⟩
              · rintro t I110 L' ⟨hI108, rfl, hK109⟩
                refine ge_at hK109 ?_
                refine ge_seq ?_
                refine gk_cond (b := j106) (by kernel_rfl) (by kernel_rfl) (fun hc115 => ?_) (fun hc115 => ?_)
                · have hr := cond_t hc115 hr
                  refine gk_seq (by kernel_rfl) ?_
                  refine gk_region (by kernel_rfl) ?_
                  refine gl_pure 1 [8] (K' := [(8, .bool false)]) (by kernel_rfl) ?_
                  refine gl_atE (by kernel_rfl) ?_
                  refine ge_seq ?_
                  refine gk_reord (D := L) (Reord.skip (Reord.skipC (Reord.skip (Reord.refl _)))) ?_
                  refine gk_ret (by kernel_rfl) ?_
                  refine ge_seq_ret ?_
                  obtain rfl := some_inj hr
                  exact ge_result trivial (ResOk.tmp (by kernel_rfl) ResOk.nil) (Imm.trans (Imm.trans (Imm.trans (Imm.trans (Imm.trans (Imm.trans (Imm.trans (Imm.trans (Imm.trans (Imm.trans (Imm.trans hI4 hI14) hI19) hI48) hI49) hI55) hJ67) hI74) hI86) hJ98) hI105) hI108) ⟨rfl, rfl⟩
                · have hr := cond_f hc115 hr
                  refine gk_skip (by kernel_rfl) ?_
                  refine ge_seq ?_
                  refine gk_seq (by kernel_rfl) ?_
                  refine gk_region (by kernel_rfl) ?_
                  refine gl_pure 2 [1, 4, 11, 139, 140] (K' := [(1, .int .i64 a1), (4, .pointer (some ⟨g1, 0, none⟩)), (11, .int .i64 (IntKind.wrap .i64 (a0.f2 + a2))), (139, .pointer (some ⟨g5, 0, none⟩)), (140, .pointer (some ⟨g1, 0, none⟩))]) (by kernel_rfl) ?_
                  refine gl_loadB (T' := 9) (xp := (.tmp 140)) (v := .string a0.f0) (g := g1) (off := 0) (cs := #[.string a0.f0, .string a0.f1, .int .i64 a0.f2, .slice A0_3 a0.f3.length n0_3, .slice A0_4 a0.f4.length n0_4]) (e := 24) (fz := (0, 0)) (by kernel_rfl) (by kernel_rfl) (by kernel_rfl) (List.mem_cons_of_mem _ (List.mem_append_right _ List.mem_cons_self)) (by kernel_rfl) ?_
                  refine gl_pure 1 [1, 4, 11, 139, 141, 142] (K' := [(1, .int .i64 a1), (4, .pointer (some ⟨g1, 0, none⟩)), (11, .int .i64 (IntKind.wrap .i64 (a0.f2 + a2))), (139, .pointer (some ⟨g5, 0, none⟩)), (141, .string a0.f0), (142, .pointer (some ⟨g1, 1, none⟩))]) (by kernel_rfl) ?_
                  refine gl_loadB (T' := 9) (xp := (.tmp 142)) (v := .string a0.f1) (g := g1) (off := 1) (cs := #[.string a0.f0, .string a0.f1, .int .i64 a0.f2, .slice A0_3 a0.f3.length n0_3, .slice A0_4 a0.f4.length n0_4]) (e := 24) (fz := (0, 0)) (by kernel_rfl) (by kernel_rfl) (by kernel_rfl) (List.mem_cons_of_mem _ (List.mem_append_right _ List.mem_cons_self)) (by kernel_rfl) ?_
                  refine gl_pure 3 [4, 139, 141, 143, 144, 145, 146] (K' := [(4, .pointer (some ⟨g1, 0, none⟩)), (139, .pointer (some ⟨g5, 0, none⟩)), (141, .string a0.f0), (143, .string a0.f1), (144, .int .i64 (IntKind.wrap .i64 (a0.f2 + a2))), (145, .int .i64 a1), (146, .pointer (some ⟨g1, 4, none⟩))]) (by kernel_rfl) ?_
                  refine gl_loadB (T' := 22) (xp := (.tmp 146)) (v := .slice A0_4 a0.f4.length n0_4) (g := g1) (off := 4) (cs := #[.string a0.f0, .string a0.f1, .int .i64 a0.f2, .slice A0_3 a0.f3.length n0_3, .slice A0_4 a0.f4.length n0_4]) (e := 24) (fz := (0, 0)) (by kernel_rfl) (by kernel_rfl) (by kernel_rfl) (List.mem_cons_of_mem _ (List.mem_append_right _ List.mem_cons_self)) (by kernel_rfl) ?_
                  obtain ⟨y116, hx117, hr⟩ := bind_some hr
                  refine gl_call (by kernel_rfl) (nflog_Log_Needs_walk (r := y116) (g0 := g5) (T0 := 78) (A0_0 := A15) (c0_0 := c16) (C0_0 := C17) (a0 := y10.2) (hG.mono (Imm.trans (Imm.trans (Imm.trans (Imm.trans (Imm.trans (Imm.trans (Imm.trans (Imm.trans (Imm.trans (Imm.trans (Imm.trans hI4 hI14) hI19) hI48) hI49) hI55) hJ67) hI74) hI86) hJ98) hI105) hI108)) (hO18.mono (Imm.trans (Imm.trans (Imm.trans (Imm.trans (Imm.trans (Imm.trans (Imm.trans (Imm.trans (Imm.trans hI19 hI48) hI49) hI55) hJ67) hI74) hI86) hJ98) hI105) hI108)) (RepS.nil _ _) (hf0_4.mono (Imm.trans (Imm.trans (Imm.trans (Imm.trans (Imm.trans (Imm.trans (Imm.trans (Imm.trans (Imm.trans (Imm.trans (Imm.trans hI4 hI14) hI19) hI48) hI49) hI55) hJ67) hI74) hI86) hJ98) hI105) hI108)) hx117 _) ?_
                  rintro v I118 L119 hI120 ⟨rfl, rfl⟩
                  refine gl_pure 5 [4, 20, 21] (K' := [(4, .pointer (some ⟨g1, 0, none⟩)), (20, .bool y116.1), (21, .int .i64 y116.2)]) (by kernel_rfl) ?_
                  refine gl_atE (by kernel_rfl) ?_
                  refine ge_seq ?_
                  refine gk_seq (by kernel_rfl) ?_
                  obtain ⟨j121, hj122, hr⟩ := bind_some hr
                  refine gk_join (fun t I' L' => I118 ≤ I' ∧ L = L' ∧ Knows 164 [(8, .bool j121)] t) ?_ ?_
                  · refine gk_region (by kernel_rfl) ?_
                    refine gl_pure 3 [4, 20, 153] (K' := [(4, .pointer (some ⟨g1, 0, none⟩)), (20, .bool y116.1), (153, .bool (y116.2 == 0))]) (by kernel_rfl) ?_
                    refine gl_case 153 (b := (y116.2 == 0)) (by kernel_rfl) (fun hc126 => ?_) (fun hc126 => ?_)
                    · have hj122 := cond_t hc126 hj122
                      refine gl_pure 2 [153, 154, 155] (K' := [(153, .bool true), (154, .bool y116.1), (155, .pointer (some ⟨g1, 3, none⟩))]) (by kernel_rfl) ?_
                      refine gl_loadB (T' := 22) (xp := (.tmp 155)) (v := .slice A0_3 a0.f3.length n0_3) (g := g1) (off := 3) (cs := #[.string a0.f0, .string a0.f1, .int .i64 a0.f2, .slice A0_3 a0.f3.length n0_3, .slice A0_4 a0.f4.length n0_4]) (e := 24) (fz := (0, 0)) (by kernel_rfl) (by kernel_rfl) (by kernel_rfl) (List.mem_cons_of_mem _ (List.mem_append_right _ List.mem_cons_self)) (by kernel_rfl) ?_
                      refine gl_pure 5 [161] (K' := [(161, .bool (y116.1 == (decide ((a0.f3.length : Int) > 0))))]) (by kernel_rfl) ?_
                      refine gl_case 161 (b := (y116.1 == (decide ((a0.f3.length : Int) > 0)))) (by kernel_rfl) (fun hc127 => ?_) (fun hc127 => ?_)
                      · have hj122 := cond_t hc127 hj122
                        obtain ⟨y128, hx129, hj122⟩ := bind_some hj122
                        refine gl_callQ (by kernel_rfl) (tocsinlaw26_awake_walk (r := y128) (hG.mono (Imm.trans (Imm.trans (Imm.trans (Imm.trans (Imm.trans (Imm.trans (Imm.trans (Imm.trans (Imm.trans (Imm.trans (Imm.trans (Imm.trans hI4 hI14) hI19) hI48) hI49) hI55) hJ67) hI74) hI86) hJ98) hI105) hI108) hI120)) hx129 _) ?_
                        refine gl_pure 2 [8] (K' := [(8, .bool y128)]) (by kernel_rfl) ?_
                        refine gl_reord (D := L) (Reord.skip (Reord.skipC (Reord.skip (Reord.refl _)))) ?_
                        refine gl_atE (by kernel_rfl) ?_
                        obtain rfl := some_inj hj122
                        exact ge_mid fun t ht => ⟨(Imm.refl _), rfl, ht.pick (l := [8]) (by kernel_rfl)⟩
                      · have hj122 := cond_f hc127 hj122
                        refine gl_pure 3 [8] (K' := [(8, .bool false)]) (by kernel_rfl) ?_
                        refine gl_reord (D := L) (Reord.skip (Reord.skipC (Reord.skip (Reord.refl _)))) ?_
                        refine gl_atE (by kernel_rfl) ?_
                        obtain rfl := some_inj hj122
                        exact ge_mid fun t ht => ⟨(Imm.refl _), rfl, ht.pick (l := [8]) (by kernel_rfl)⟩
                    · have hj122 := cond_f hc126 hj122
                      refine gl_pure 11 [8] (K' := [(8, .bool false)]) (by kernel_rfl) ?_
                      refine gl_reord (D := L) (Reord.skip (Reord.skipC (Reord.skip (Reord.refl _)))) ?_
                      refine gl_atE (by kernel_rfl) ?_
                      obtain rfl := some_inj hj122
                      exact ge_mid fun t ht => ⟨(Imm.refl _), rfl, ht.pick (l := [8]) (by kernel_rfl)⟩
                  · rintro t I125 L' ⟨hI123, rfl, hK124⟩
                    refine ge_at hK124 ?_
                    refine ge_seq ?_
                    refine gk_ret (by kernel_rfl) ?_
                    obtain rfl := some_inj hr
                    exact ge_result trivial (ResOk.tmp (by kernel_rfl) ResOk.nil) (Imm.trans (Imm.trans (Imm.trans (Imm.trans (Imm.trans (Imm.trans (Imm.trans (Imm.trans (Imm.trans (Imm.trans (Imm.trans (Imm.trans (Imm.trans hI4 hI14) hI19) hI48) hI49) hI55) hJ67) hI74) hI86) hJ98) hI105) hI108) hI120) hI123) ⟨rfl, rfl⟩
end Go.Proofs.YtlkmfhccpcncnaaDoor
