/- Parts: N1b. -/
import Derived.Test.YtcnnbaneoehilaaDoorN1ak
set_option linter.unusedVariables false
set_option linter.unusedSimpArgs false
set_option maxRecDepth 100000
namespace Go.Proofs.YtcnnbaneoehilaaDoor
open Go.GB
/-! 55 tocsinref04_one  -/
noncomputable def tocsinref04_one (a0 : S50) : Option Int :=
  Option.bind (tocsinref04_Name a0.f0) fun (y2 : Bool) =>
  bif (!y2) then
  (some 40)
  else
  (bif (a0.f1.toList == (⟨#[]⟩ : ByteArray).toList) then
    (some 41)
    else
    (bif (decide ((a0.f1.size : Int) > 256)) then
      (some 4)
      else
      (Option.bind (tocsinref01_Utf8 a0.f1) fun (y7 : Bool) =>
        bif (!y7) then
        (some 12)
        else
        (some 0))))
theorem tocsinref04_one_walk {a0 : S50} {I : Imm} {r : Int}  (hr : tocsinref04_one a0 = some r) (L : Own) :
    CallsTo Tryd.prog 55 #[.agg #[.string a0.f0, .string a0.f1]] I L (fun v I' L' => v = .int .i64 r ∧ L = L') := by
  unfold tocsinref04_one at hr
  refine callsTo_body (N := 22) Tryd.func55 (by kernel_rfl) (by kernel_rfl) (by kernel_rfl) ?_
  refine gk_pick [0] (K' := [(0, .agg #[.string a0.f0, .string a0.f1])]) (by kernel_rfl) ?_
  refine gk_seq (by kernel_rfl) ?_
  refine gk_region (by kernel_rfl) ?_
  refine gl_box (T' := 51) (x := (.tmp 0)) (v := .agg #[.string a0.f0, .string a0.f1]) (cs := #[.string a0.f0, .string a0.f1]) (by kernel_rfl) (by kernel_rfl) (by kernel_rfl) (by kernel_rfl) (fun g1 => ?_)
  refine gl_pure 1 [1] (K' := [(1, .pointer (some ⟨g1, 0, none⟩))]) (by kernel_rfl) ?_
  refine gl_atE (by kernel_rfl) ?_
  refine ge_seq ?_
  refine gk_seq (by kernel_rfl) ?_
  refine gk_block (by kernel_rfl) ?_
  refine gk_seq (by kernel_rfl) ?_
  refine gk_region (by kernel_rfl) ?_
  refine gl_pure 1 [1, 4] (K' := [(1, .pointer (some ⟨g1, 0, none⟩)), (4, .pointer (some ⟨g1, 0, none⟩))]) (by kernel_rfl) ?_
  refine gl_loadB (T' := 9) (xp := (.tmp 4)) (v := .string a0.f0) (g := g1) (off := 0) (cs := #[.string a0.f0, .string a0.f1]) (e := 51) (fz := (0, 0)) (by kernel_rfl) (by kernel_rfl) (by kernel_rfl) List.mem_cons_self (by kernel_rfl) ?_
  obtain ⟨y2, hx3, hr⟩ := bind_some hr
  refine gl_callQ (by kernel_rfl) (tocsinref04_Name_walk (r := y2)  hx3 _) ?_
  refine gl_pure 2 [1, 3] (K' := [(1, .pointer (some ⟨g1, 0, none⟩)), (3, .bool (!y2))]) (by kernel_rfl) ?_
  refine gl_atE (by kernel_rfl) ?_
  refine ge_seq ?_
  refine gk_cond (b := (!y2)) (by kernel_rfl) (by kernel_rfl) (fun hc4 => ?_) (fun hc4 => ?_)
  · have hr := cond_t hc4 hr
    refine gk_seq (by kernel_rfl) ?_
    refine gk_region (by kernel_rfl) ?_
    refine gl_pure 1 [2] (K' := [(2, .int .i64 40)]) (by kernel_rfl) ?_
    refine gl_atE (by kernel_rfl) ?_
    refine ge_seq ?_
    refine gk_reord (D := L) (Reord.skip (Reord.refl _)) ?_
    refine gk_ret (by kernel_rfl) ?_
    refine ge_block_ret ?_
    refine ge_seq_ret ?_
    obtain rfl := some_inj hr
    exact ge_result trivial (ResOk.tmp (by kernel_rfl) ResOk.nil) (Imm.refl _) ⟨rfl, rfl⟩
  · have hr := cond_f hc4 hr
    refine gk_seq (by kernel_rfl) ?_
    refine gk_region (by kernel_rfl) ?_
    refine gl_pure 1 [1, 9] (K' := [(1, .pointer (some ⟨g1, 0, none⟩)), (9, .pointer (some ⟨g1, 1, none⟩))]) (by kernel_rfl) ?_
    refine gl_loadB (T' := 9) (xp := (.tmp 9)) (v := .string a0.f1) (g := g1) (off := 1) (cs := #[.string a0.f0, .string a0.f1]) (e := 51) (fz := (0, 0)) (by kernel_rfl) (by kernel_rfl) (by kernel_rfl) List.mem_cons_self (by kernel_rfl) ?_
    refine gl_pure 2 [1, 8] (K' := [(1, .pointer (some ⟨g1, 0, none⟩)), (8, .bool (a0.f1.toList == (⟨#[]⟩ : ByteArray).toList))]) (by kernel_rfl) ?_
    refine gl_atE (by kernel_rfl) ?_
    refine ge_seq ?_
    refine gk_cond (b := (a0.f1.toList == (⟨#[]⟩ : ByteArray).toList)) (by kernel_rfl) (by kernel_rfl) (fun hc5 => ?_) (fun hc5 => ?_)
    · have hr := cond_t hc5 hr
      refine gk_seq (by kernel_rfl) ?_
      refine gk_region (by kernel_rfl) ?_
      refine gl_pure 1 [2] (K' := [(2, .int .i64 41)]) (by kernel_rfl) ?_
      refine gl_atE (by kernel_rfl) ?_
      refine ge_seq ?_
      refine gk_reord (D := L) (Reord.skip (Reord.refl _)) ?_
      refine gk_ret (by kernel_rfl) ?_
      refine ge_block_ret ?_
      refine ge_seq_ret ?_
      obtain rfl := some_inj hr
      exact ge_result trivial (ResOk.tmp (by kernel_rfl) ResOk.nil) (Imm.refl _) ⟨rfl, rfl⟩
    · have hr := cond_f hc5 hr
      refine gk_seq (by kernel_rfl) ?_
      refine gk_region (by kernel_rfl) ?_
      refine gl_pure 1 [1, 13] (K' := [(1, .pointer (some ⟨g1, 0, none⟩)), (13, .pointer (some ⟨g1, 1, none⟩))]) (by kernel_rfl) ?_
      refine gl_loadB (T' := 9) (xp := (.tmp 13)) (v := .string a0.f1) (g := g1) (off := 1) (cs := #[.string a0.f0, .string a0.f1]) (e := 51) (fz := (0, 0)) (by kernel_rfl) (by kernel_rfl) (by kernel_rfl) List.mem_cons_self (by kernel_rfl) ?_
      refine gl_pure 3 [1, 12] (K' := [(1, .pointer (some ⟨g1, 0, none⟩)), (12, .bool (decide ((a0.f1.size : Int) > 256)))]) (by kernel_rfl) ?_
      refine gl_atE (by kernel_rfl) ?_
      refine ge_seq ?_
      refine gk_cond (b := (decide ((a0.f1.size : Int) > 256))) (by kernel_rfl) (by kernel_rfl) (fun hc6 => ?_) (fun hc6 => ?_)
      · have hr := cond_t hc6 hr
        refine gk_seq (by kernel_rfl) ?_
        refine gk_region (by kernel_rfl) ?_
        refine gl_pure 1 [2] (K' := [(2, .int .i64 4)]) (by kernel_rfl) ?_
        refine gl_atE (by kernel_rfl) ?_
        refine ge_seq ?_
        refine gk_reord (D := L) (Reord.skip (Reord.refl _)) ?_
        refine gk_ret (by kernel_rfl) ?_
        refine ge_block_ret ?_
        refine ge_seq_ret ?_
        obtain rfl := some_inj hr
        exact ge_result trivial (ResOk.tmp (by kernel_rfl) ResOk.nil) (Imm.refl _) ⟨rfl, rfl⟩
      · have hr := cond_f hc6 hr
        refine gk_seq (by kernel_rfl) ?_
        refine gk_region (by kernel_rfl) ?_
        refine gl_pure 1 [18] (K' := [(18, .pointer (some ⟨g1, 1, none⟩))]) (by kernel_rfl) ?_
        refine gl_loadB (T' := 9) (xp := (.tmp 18)) (v := .string a0.f1) (g := g1) (off := 1) (cs := #[.string a0.f0, .string a0.f1]) (e := 51) (fz := (0, 0)) (by kernel_rfl) (by kernel_rfl) (by kernel_rfl) List.mem_cons_self (by kernel_rfl) ?_
        obtain ⟨y7, hx8, hr⟩ := bind_some hr
        refine gl_callQ (by kernel_rfl) (tocsinref01_Utf8_walk (r := y7)  hx8 _) ?_
        refine gl_pure 2 [17] (K' := [(17, .bool (!y7))]) (by kernel_rfl) ?_
        refine gl_atE (by kernel_rfl) ?_
        refine ge_seq ?_
        refine gk_cond (b := (!y7)) (by kernel_rfl) (by kernel_rfl) (fun hc9 => ?_) (fun hc9 => ?_)
        · have hr := cond_t hc9 hr
          refine gk_seq (by kernel_rfl) ?_
          refine gk_region (by kernel_rfl) ?_
          refine gl_pure 1 [2] (K' := [(2, .int .i64 12)]) (by kernel_rfl) ?_
          refine gl_atE (by kernel_rfl) ?_
          refine ge_seq ?_
          refine gk_reord (D := L) (Reord.skip (Reord.refl _)) ?_
          refine gk_ret (by kernel_rfl) ?_
          refine ge_block_ret ?_
          refine ge_seq_ret ?_
          obtain rfl := some_inj hr
          exact ge_result trivial (ResOk.tmp (by kernel_rfl) ResOk.nil) (Imm.refl _) ⟨rfl, rfl⟩
        · have hr := cond_f hc9 hr
          refine gk_skip (by kernel_rfl) ?_
          refine ge_block_normal ?_
          refine ge_seq ?_
          refine gk_seq (by kernel_rfl) ?_
          refine gk_region (by kernel_rfl) ?_
          refine gl_pure 1 [2] (K' := [(2, .int .i64 0)]) (by kernel_rfl) ?_
          refine gl_atE (by kernel_rfl) ?_
          refine ge_seq ?_
          refine gk_reord (D := L) (Reord.skip (Reord.refl _)) ?_
          refine gk_ret (by kernel_rfl) ?_
          obtain rfl := some_inj hr
          exact ge_result trivial (ResOk.tmp (by kernel_rfl) ResOk.nil) (Imm.refl _) ⟨rfl, rfl⟩
/-! 39 tocsinref04_Right  -/
noncomputable def tocsinref04_Right_l18 (a0 : List S50) : Int → Option ((Int) ⊕ ((Unit) ⊕ (Int × Int))) := fun s8 =>
  bif (decide (s8 < (a0.length : Int))) then
  (Option.bind (ix a0 s8) fun (x21 : S50) =>
    Option.bind (tocsinref04_one x21) fun (y30 : Int) =>
    bif (y30 != 0) then
    (some (Sum.inr (Sum.inr (y30, s8))))
    else
    (Option.bind (bif (decide (s8 > 0)) then
        (Option.bind (ix a0 (IntKind.wrap .i64 (s8 - 1))) fun (x39 : S50) =>
          some (!(Op.bytesLess x39.f0.toList x21.f0.toList)))
        else
        (some false)) fun (j33 : Bool) =>
      bif j33 then
      (some (Sum.inr (Sum.inr (3, s8))))
      else
      (some (Sum.inl (IntKind.wrap .i64 (s8 + 1))))))
  else
  (some (Sum.inr (Sum.inl ())))
noncomputable def tocsinref04_Right (a0 : List S50) : Option (Int × Int) :=
  bif (decide ((a0.length : Int) > 16)) then
  (some (8, 0))
  else
  (Option.bind (loopO (tocsinref04_Right_l18 a0) 0) fun (r6 : (Unit) ⊕ (Int × Int)) =>
    match r6 with
    | Sum.inl r14 => some (0, 0)
    | Sum.inr v48 => some v48)
theorem tocsinref04_Right_walk {a0 : List S50} {A0_0 : Option Addr} {n0_0 : Nat} {I : Imm} {r : Int × Int}  (hf0_0 : RepS kS50 I A0_0 n0_0 a0) (hr : tocsinref04_Right a0 = some r) (L : Own) :
    CallsTo Tryd.prog 39 #[.slice A0_0 a0.length n0_0] I L (fun v I' L' => v = .tuple #[.int .i64 r.1, .int .i64 r.2] ∧ L = L') := by
  unfold tocsinref04_Right at hr
  refine callsTo_body (N := 38) Tryd.func39 (by kernel_rfl) (by kernel_rfl) (by kernel_rfl) ?_
  refine gk_pick [0] (K' := [(0, .slice A0_0 a0.length n0_0)]) (by kernel_rfl) ?_
  refine gk_seq (by kernel_rfl) ?_
  refine gk_region (by kernel_rfl) ?_
  refine gl_pure 2 [0] (K' := [(0, .slice A0_0 a0.length n0_0)]) (by kernel_rfl) ?_
  refine gl_atE (by kernel_rfl) ?_
  refine ge_seq ?_
  refine gk_seq (by kernel_rfl) ?_
  refine gk_seq (by kernel_rfl) ?_
  refine gk_region (by kernel_rfl) ?_
  refine gl_pure 3 [0, 9] (K' := [(0, .slice A0_0 a0.length n0_0), (9, .bool (decide ((a0.length : Int) > 16)))]) (by kernel_rfl) ?_
  refine gl_atE (by kernel_rfl) ?_
  refine ge_seq ?_
  refine gk_cond (b := (decide ((a0.length : Int) > 16))) (by kernel_rfl) (by kernel_rfl) (fun hc1 => ?_) (fun hc1 => ?_)
  · have hr := cond_t hc1 hr
    refine gk_seq (by kernel_rfl) ?_
    refine gk_region (by kernel_rfl) ?_
    refine gl_pure 2 [2, 3] (K' := [(2, .int .i64 8), (3, .int .i64 0)]) (by kernel_rfl) ?_
    refine gl_atE (by kernel_rfl) ?_
    refine ge_seq ?_
    refine gk_ret (by kernel_rfl) ?_
    refine ge_seq_ret ?_
    obtain rfl := some_inj hr
    exact ge_result trivial (ResOk.tmp (by kernel_rfl) (ResOk.tmp (by kernel_rfl) ResOk.nil)) (Imm.refl _) ⟨rfl, rfl⟩
  · have hr := cond_f hc1 hr
    refine gk_skip (by kernel_rfl) ?_
    refine ge_seq ?_
    refine gk_seq (by kernel_rfl) ?_
    refine gk_seq (by kernel_rfl) ?_
    refine gk_region (by kernel_rfl) ?_
    refine gl_pure 3 [0, 10, 11, 12] (K' := [(0, .slice A0_0 a0.length n0_0), (10, .slice A0_0 a0.length n0_0), (11, .int .i64 (a0.length : Int)), (12, .int .i64 0)]) (by kernel_rfl) ?_
    refine gl_atE (by kernel_rfl) ?_
    refine ge_seq ?_
    obtain ⟨r6, hl7, hr⟩ := bind_some hr
    refine gk_join (fun t I' L' => ∃ r14, r6 = Sum.inl r14 ∧ I ≤ I' ∧ L = L' ∧ Knows 38 [] t) ?_ ?_
    · refine gk_block (by kernel_rfl) ?_
      refine gk_pick [0, 10, 11, 12] (K' := [(0, .slice A0_0 a0.length n0_0), (10, .slice A0_0 a0.length n0_0), (11, .int .i64 (a0.length : Int)), (12, .int .i64 0)]) (by kernel_rfl) ?_
      intro t hK
      refine gc_loop (tocsinref04_Right_l18 a0) (fun s8 t I' L' => I ≤ I' ∧ L = L' ∧ Knows 38 [(0, .slice A0_0 a0.length n0_0), (10, .slice A0_0 a0.length n0_0), (11, .int .i64 (a0.length : Int)), (12, .int .i64 s8)] t) (by kernel_rfl) ?_ hl7 ⟨(Imm.refl _), rfl, hK⟩
      rintro s8 o9 t I13 L' hb10 ⟨hI11, rfl, hK12⟩
      unfold tocsinref04_Right_l18 at hb10
      refine gk_at hK12 ?_
      refine gk_seq (by kernel_rfl) ?_
      refine gk_region (by kernel_rfl) ?_
      refine gl_pure 1 [0, 10, 11, 12, 13] (K' := [(0, .slice A0_0 a0.length n0_0), (10, .slice A0_0 a0.length n0_0), (11, .int .i64 (a0.length : Int)), (12, .int .i64 s8), (13, .bool (decide (s8 < (a0.length : Int))))]) (by kernel_rfl) ?_
      refine gl_atE (by kernel_rfl) ?_
      refine ge_seq ?_
      refine gk_seq (by kernel_rfl) ?_
      refine gk_cond (b := (decide (s8 < (a0.length : Int)))) (by kernel_rfl) (by kernel_rfl) (fun hc20 => ?_) (fun hc20 => ?_)
      · have hb10 := cond_t hc20 hb10
        refine gk_skip (by kernel_rfl) ?_
        refine ge_seq ?_
        refine gk_seq (by kernel_rfl) ?_
        refine gk_block (by kernel_rfl) ?_
        refine gk_seq (by kernel_rfl) ?_
        refine gk_region (by kernel_rfl) ?_
        refine gl_pure 1 [0, 10, 11, 12, 14] (K' := [(0, .slice A0_0 a0.length n0_0), (10, .slice A0_0 a0.length n0_0), (11, .int .i64 (a0.length : Int)), (12, .int .i64 s8), (14, .int .i64 s8)]) (by kernel_rfl) ?_
        obtain ⟨x21, hx22, hb10⟩ := bind_some hb10
        obtain ⟨p23, cs24, hR25, hA26, ha27⟩ := RepS.ixAt hx22 (hf0_0.mono hI11)
        have hi28 := ix_some hx22
        obtain rfl := kS50_open hR25
        refine gl_indexAddrF (c := n0_0) (T' := 39) (e := 51) (xs := (.tmp 10)) (xi := (.tmp 12)) (kd := .i64) ha27 hi28.1 hi28.2.1 (by kernel_rfl) (by kernel_rfl) (by kernel_rfl) (by kernel_rfl) (by kernel_rfl) ?_
        refine gl_loadA (T' := 51) (xp := (.tmp 15)) (p := p23) (cs := [.string x21.f0, .string x21.f1]) (by kernel_rfl) (by kernel_rfl) (by kernel_rfl) (by kernel_rfl) (hA26.take 2) ?_
        refine gl_alloc (T' := 51) (cs := #[.string (⟨#[]⟩ : ByteArray), .string (⟨#[]⟩ : ByteArray)]) (by kernel_rfl) (by kernel_rfl) (by kernel_rfl) (fun g29 => ?_)
        refine gl_pure 1 [0, 4, 5, 10, 11, 12, 16] (K' := [(0, .slice A0_0 a0.length n0_0), (4, .int .i64 s8), (5, .pointer (some ⟨g29, 0, none⟩)), (10, .slice A0_0 a0.length n0_0), (11, .int .i64 (a0.length : Int)), (12, .int .i64 s8), (16, .agg #[.string x21.f0, .string x21.f1])]) (by kernel_rfl) ?_
        refine gl_storeB (T' := 51) (xp := (.tmp 5)) (xv := (.tmp 16)) (v := .agg #[.string x21.f0, .string x21.f1]) (g := g29) (off := 0) (cs := #[.string (⟨#[]⟩ : ByteArray), .string (⟨#[]⟩ : ByteArray)]) (cs' := #[.string x21.f0, .string x21.f1]) (by kernel_rfl) (by kernel_rfl) (by kernel_rfl) (by kernel_rfl) (by kernel_rfl) (Upd.set _ _ _ _) ?_ (by kernel_rfl)
        refine gl_atE (by kernel_rfl) ?_
        refine ge_seq ?_
        refine gk_seq (by kernel_rfl) ?_
        refine gk_seq (by kernel_rfl) ?_
        refine gk_region (by kernel_rfl) ?_
        refine gl_loadB (T' := 51) (xp := (.tmp 5)) (v := .agg #[.string x21.f0, .string x21.f1]) (g := g29) (off := 0) (cs := #[.string x21.f0, .string x21.f1]) (e := 51) (fz := (0, 0)) (by kernel_rfl) (by kernel_rfl) (by kernel_rfl) List.mem_cons_self (by kernel_rfl) ?_
        obtain ⟨y30, hx31, hb10⟩ := bind_some hb10
        refine gl_callQ (by kernel_rfl) (tocsinref04_one_walk (r := y30)  hx31 _) ?_
        refine gl_pure 1 [0, 4, 5, 6, 10, 11, 12] (K' := [(0, .slice A0_0 a0.length n0_0), (4, .int .i64 s8), (5, .pointer (some ⟨g29, 0, none⟩)), (6, .int .i64 y30), (10, .slice A0_0 a0.length n0_0), (11, .int .i64 (a0.length : Int)), (12, .int .i64 s8)]) (by kernel_rfl) ?_
        refine gl_atE (by kernel_rfl) ?_
        refine ge_seq ?_
        refine gk_seq (by kernel_rfl) ?_
        refine gk_region (by kernel_rfl) ?_
        refine gl_pure 2 [0, 4, 5, 6, 10, 11, 12, 20] (K' := [(0, .slice A0_0 a0.length n0_0), (4, .int .i64 s8), (5, .pointer (some ⟨g29, 0, none⟩)), (6, .int .i64 y30), (10, .slice A0_0 a0.length n0_0), (11, .int .i64 (a0.length : Int)), (12, .int .i64 s8), (20, .bool (y30 != 0))]) (by kernel_rfl) ?_
        refine gl_atE (by kernel_rfl) ?_
        refine ge_seq ?_
        refine gk_cond (b := (y30 != 0)) (by kernel_rfl) (by kernel_rfl) (fun hc32 => ?_) (fun hc32 => ?_)
        · have hb10 := cond_t hc32 hb10
          refine gk_seq (by kernel_rfl) ?_
          refine gk_region (by kernel_rfl) ?_
          refine gl_pure 4 [2, 3] (K' := [(2, .int .i64 y30), (3, .int .i64 s8)]) (by kernel_rfl) ?_
          refine gl_atE (by kernel_rfl) ?_
          refine ge_seq ?_
          refine gk_reord (D := L) (Reord.skip (Reord.refl _)) ?_
          refine gk_ret (by kernel_rfl) ?_
          refine ge_seq_ret ?_
          refine ge_block_ret ?_
          refine ge_seq_ret ?_
          obtain rfl := some_inj hb10
          refine ge_round_out (fun hrr => ?_) (by intro h; cases h)
          obtain rfl := hrr
          refine ge_block_ret ?_
          refine ge_seq_ret ?_
          refine ge_seq_ret ?_
          obtain rfl := some_inj hr
          exact ge_result trivial (ResOk.tmp (by kernel_rfl) (ResOk.tmp (by kernel_rfl) ResOk.nil)) hI11 ⟨rfl, rfl⟩
        · have hb10 := cond_f hc32 hb10
          refine gk_skip (by kernel_rfl) ?_
          refine ge_seq ?_
          refine gk_seq (by kernel_rfl) ?_
          obtain ⟨j33, hj34, hb10⟩ := bind_some hb10
          refine gk_join (fun t I' L' => I13 ≤ I' ∧ L = L' ∧ Knows 38 [(0, .slice A0_0 a0.length n0_0), (4, .int .i64 s8), (10, .slice A0_0 a0.length n0_0), (11, .int .i64 (a0.length : Int)), (12, .int .i64 s8), (35, .bool j33)] t) ?_ ?_
          · refine gk_draw 13 [(0, true), (1, true), (2, true), (3, true), (4, true), (5, true), (6, true), (7, true), (8, true), (9, true), (10, true), (11, true), (12, true)] [(g29, .cells #[.string x21.f0, .string x21.f1] 51)] (List.forall_mem_cons.2 ⟨List.mem_cons_self, (fun p hp => by cases hp)⟩) (by kernel_rfl) (by kernel_rfl) (by kernel_rfl) ?_ (by kernel_rfl)
            refine gd_pure 3 [0, 4, 5, 10, 11, 12, 25] (K' := [(0, .slice A0_0 a0.length n0_0), (4, .int .i64 s8), (5, .pointer (some ⟨g29, 0, none⟩)), (10, .slice A0_0 a0.length n0_0), (11, .int .i64 (a0.length : Int)), (12, .int .i64 s8), (25, .bool (decide (s8 > 0)))]) (s' := [(3, true), (4, true), (5, true), (6, true), (7, true), (8, true), (9, true), (10, true), (11, true), (12, true)]) (CC.refl (List.forall_mem_cons.2 ⟨List.mem_cons_self, (fun p hp => by cases hp)⟩)) (by kernel_rfl) ?_
            refine gd_case 25 (b := (decide (s8 > 0))) (by kernel_rfl) (fun hc38 => ?_) (fun hc38 => ?_)
            · have hj34 := cond_t hc38 hj34
              refine gd_pure 3 [0, 4, 5, 10, 11, 12, 25, 26, 28] (K' := [(0, .slice A0_0 a0.length n0_0), (4, .int .i64 s8), (5, .pointer (some ⟨g29, 0, none⟩)), (10, .slice A0_0 a0.length n0_0), (11, .int .i64 (a0.length : Int)), (12, .int .i64 s8), (25, .bool true), (26, .slice A0_0 a0.length n0_0), (28, .int .i64 (IntKind.wrap .i64 (s8 - 1)))]) (s' := [(6, true), (7, true), (8, true), (9, true), (10, true), (11, true), (12, true)]) (CC.refl (List.forall_mem_cons.2 ⟨List.mem_cons_self, (fun p hp => by cases hp)⟩)) (by kernel_rfl) ?_
              obtain ⟨x39, hx40, hj34⟩ := bind_some hj34
              obtain ⟨p41, cs42, hR43, hA44, ha45⟩ := RepS.ixAt hx40 (hf0_0.mono hI11)
              have hi46 := ix_some hx40
              obtain rfl := kS50_open hR43
              refine gd_q (v := .pointer (some p41)) (by kernel_rfl) (by kernel_rfl) (CC.refl (List.forall_mem_cons.2 ⟨List.mem_cons_self, (fun p hp => by cases hp)⟩)) (fun I' L' T hC kk => gl_indexAddrF (c := n0_0) (T' := 39) (e := 51) (xs := (.tmp 26)) (xi := (.tmp 28)) (kd := .i64) ha45 hi46.1 hi46.2.1 (by kernel_rfl) (by kernel_rfl) (by kernel_rfl) (by kernel_rfl) (by kernel_rfl) kk) ?_
              refine gd_pure 1 [0, 4, 5, 10, 11, 12, 25, 30] (K' := [(0, .slice A0_0 a0.length n0_0), (4, .int .i64 s8), (5, .pointer (some ⟨g29, 0, none⟩)), (10, .slice A0_0 a0.length n0_0), (11, .int .i64 (a0.length : Int)), (12, .int .i64 s8), (25, .bool true), (30, .pointer (some (p41.add 0)))]) (s' := [(8, true), (9, true), (10, true), (11, true), (12, true)]) (CC.refl (List.forall_mem_cons.2 ⟨List.mem_cons_self, (fun p hp => by cases hp)⟩)) (by kernel_rfl) ?_
              refine gd_q (v := .string x39.f0) (by kernel_rfl) (by kernel_rfl) (CC.refl (List.forall_mem_cons.2 ⟨List.mem_cons_self, (fun p hp => by cases hp)⟩)) (fun I' L' T hC kk => gl_load (T' := 9) (xp := (.tmp 30)) (p := (p41.add 0)) (c := .string x39.f0) (n := 1) (by kernel_rfl) (by kernel_rfl) (by kernel_rfl) (by kernel_rfl) ((hA44.drop 0).mono hC.le) kk) ?_
              refine gd_pure 1 [0, 4, 10, 11, 12, 25, 31, 32] (K' := [(0, .slice A0_0 a0.length n0_0), (4, .int .i64 s8), (10, .slice A0_0 a0.length n0_0), (11, .int .i64 (a0.length : Int)), (12, .int .i64 s8), (25, .bool true), (31, .string x39.f0), (32, .pointer (some ⟨g29, 0, none⟩))]) (s' := [(10, true), (11, true), (12, true)]) (CC.refl (List.forall_mem_cons.2 ⟨List.mem_cons_self, (fun p hp => by cases hp)⟩)) (by kernel_rfl) ?_
              refine gd_q (v := .string x21.f0) (by kernel_rfl) (by kernel_rfl) (CC.refl (List.forall_mem_cons.2 ⟨List.mem_cons_self, (fun p hp => by cases hp)⟩)) (fun I' L' T hC kk => gl_loadB (T' := 9) (xp := (.tmp 32)) (v := .string x21.f0) (g := g29) (off := 0) (cs := #[.string x21.f0, .string x21.f1]) (e := 51) (fz := (0, 0)) (by kernel_rfl) (by kernel_rfl) (by kernel_rfl) (hC.sub _ List.mem_cons_self) (by kernel_rfl) kk) ?_
              refine gd_pure 2 [0, 4, 10, 11, 12, 35] (K' := [(0, .slice A0_0 a0.length n0_0), (4, .int .i64 s8), (10, .slice A0_0 a0.length n0_0), (11, .int .i64 (a0.length : Int)), (12, .int .i64 s8), (35, .bool (!(Op.bytesLess x39.f0.toList x21.f0.toList)))]) (s' := []) (CC.refl (List.forall_mem_cons.2 ⟨List.mem_cons_self, (fun p hp => by cases hp)⟩)) (by kernel_rfl) ?_
              refine gd_done ?_
              refine gl_reord (D := L) (Reord.skip (Reord.refl _)) ?_
              refine gl_atE (by kernel_rfl) ?_
              obtain rfl := some_inj hj34
              exact ge_mid fun t ht => ⟨(Imm.refl _), rfl, ht.pick (l := [0, 4, 10, 11, 12, 35]) (by kernel_rfl)⟩
            · have hj34 := cond_f hc38 hj34
              refine gd_pure 10 [0, 4, 10, 11, 12, 35] (K' := [(0, .slice A0_0 a0.length n0_0), (4, .int .i64 s8), (10, .slice A0_0 a0.length n0_0), (11, .int .i64 (a0.length : Int)), (12, .int .i64 s8), (35, .bool false)]) (s' := []) (CC.refl (List.forall_mem_cons.2 ⟨List.mem_cons_self, (fun p hp => by cases hp)⟩)) (by kernel_rfl) ?_
              refine gd_done ?_
              refine gl_reord (D := L) (Reord.skip (Reord.refl _)) ?_
              refine gl_atE (by kernel_rfl) ?_
              obtain rfl := some_inj hj34
              exact ge_mid fun t ht => ⟨(Imm.refl _), rfl, ht.pick (l := [0, 4, 10, 11, 12, 35]) (by kernel_rfl)⟩
          · rintro t I37 L' ⟨hI35, rfl, hK36⟩
            refine ge_at hK36 ?_
            refine ge_seq ?_
            refine gk_cond (b := j33) (by kernel_rfl) (by kernel_rfl) (fun hc47 => ?_) (fun hc47 => ?_)
            · have hb10 := cond_t hc47 hb10
              refine gk_seq (by kernel_rfl) ?_
              refine gk_region (by kernel_rfl) ?_
              refine gl_pure 3 [2, 3] (K' := [(2, .int .i64 3), (3, .int .i64 s8)]) (by kernel_rfl) ?_
              refine gl_atE (by kernel_rfl) ?_
              refine ge_seq ?_
              refine gk_ret (by kernel_rfl) ?_
              refine ge_block_ret ?_
              refine ge_seq_ret ?_
              obtain rfl := some_inj hb10
              refine ge_round_out (fun hrr => ?_) (by intro h; cases h)
              obtain rfl := hrr
              refine ge_block_ret ?_
              refine ge_seq_ret ?_
              refine ge_seq_ret ?_
              obtain rfl := some_inj hr
              exact ge_result trivial (ResOk.tmp (by kernel_rfl) (ResOk.tmp (by kernel_rfl) ResOk.nil)) (Imm.trans hI11 hI35) ⟨rfl, rfl⟩
            · have hb10 := cond_f hc47 hb10
              refine gk_skip (by kernel_rfl) ?_
              refine ge_block_normal ?_
              refine ge_seq ?_
              refine gk_region (by kernel_rfl) ?_
              refine gl_pure 2 [0, 10, 11, 12] (K' := [(0, .slice A0_0 a0.length n0_0), (10, .slice A0_0 a0.length n0_0), (11, .int .i64 (a0.length : Int)), (12, .int .i64 (IntKind.wrap .i64 (s8 + 1)))]) (by kernel_rfl) ?_
              refine gl_atE (by kernel_rfl) ?_
              obtain rfl := some_inj hb10
              exact ge_round fun t ht => ⟨(Imm.trans hI11 hI35), rfl, ht.pick (l := [0, 10, 11, 12]) (by kernel_rfl)⟩
      · have hb10 := cond_f hc20 hb10
        refine gk_exit (by kernel_rfl) ?_
        refine ge_seq_exit ?_
        obtain rfl := some_inj hb10
        refine ge_round_out (fun hrr => ?_) (by intro h; cases h)
        obtain rfl := hrr
        refine ge_block_hit (by kernel_rfl) ?_
        exact ge_mid fun t ht => ⟨_, rfl, hI11, rfl, ht.pick (l := []) (by kernel_rfl)⟩
    · rintro t I17 L' ⟨r14, rfl, hI15, rfl, hK16⟩
      refine ge_at hK16 ?_
      refine ge_seq ?_
      refine gk_seq (by kernel_rfl) ?_
      refine gk_region (by kernel_rfl) ?_
      refine gl_pure 2 [2, 3] (K' := [(2, .int .i64 0), (3, .int .i64 0)]) (by kernel_rfl) ?_
      refine gl_atE (by kernel_rfl) ?_
      refine ge_seq ?_
      refine gk_ret (by kernel_rfl) ?_
      obtain rfl := some_inj hr
      exact ge_result trivial (ResOk.tmp (by kernel_rfl) (ResOk.tmp (by kernel_rfl) ResOk.nil)) hI15 ⟨rfl, rfl⟩
/-! 20 tocsinref26_sets  -/
noncomputable def tocsinref26_sets_l17 (a0 : List (List S50)) : Int → Option ((Int) ⊕ ((Unit) ⊕ (Bool))) := fun s7 =>
  bif (decide (s7 < (a0.length : Int))) then
  (Option.bind (ix a0 s7) fun (x20 : List S50) =>
    Option.bind (tocsinref04_Right x20) fun (y31 : Int × Int) =>
    bif (y31.1 != 0) then
    (some (Sum.inr (Sum.inr false)))
    else
    (some (Sum.inl (IntKind.wrap .i64 (s7 + 1)))))
  else
  (some (Sum.inr (Sum.inl ())))
noncomputable def tocsinref26_sets (a0 : List (List S50)) : Option Bool :=
  Option.bind (loopO (tocsinref26_sets_l17 a0) 0) fun (r5 : (Unit) ⊕ (Bool)) =>
  match r5 with
  | Sum.inl r13 => some true
  | Sum.inr v34 => some v34
theorem tocsinref26_sets_walk {a0 : List (List S50)} {A0_0 : Option Addr} {n0_0 : Nat} {I : Imm} {r : Bool}  (hf0_0 : RepS (Kd.sl kS50) I A0_0 n0_0 a0) (hr : tocsinref26_sets a0 = some r) (L : Own) :
    CallsTo Tryd.prog 20 #[.slice A0_0 a0.length n0_0] I L (fun v I' L' => v = .bool r ∧ L = L') := by
  unfold tocsinref26_sets at hr
  refine callsTo_body (N := 21) Tryd.func20 (by kernel_rfl) (by kernel_rfl) (by kernel_rfl) ?_
  refine gk_pick [0] (K' := [(0, .slice A0_0 a0.length n0_0)]) (by kernel_rfl) ?_
  refine gk_seq (by kernel_rfl) ?_
  refine gk_region (by kernel_rfl) ?_
  refine gl_pure 1 [0] (K' := [(0, .slice A0_0 a0.length n0_0)]) (by kernel_rfl) ?_
  refine gl_atE (by kernel_rfl) ?_
  refine ge_seq ?_
  refine gk_seq (by kernel_rfl) ?_
  refine gk_seq (by kernel_rfl) ?_
  refine gk_region (by kernel_rfl) ?_
  refine gl_pure 3 [7, 8, 9] (K' := [(7, .slice A0_0 a0.length n0_0), (8, .int .i64 (a0.length : Int)), (9, .int .i64 0)]) (by kernel_rfl) ?_
  refine gl_atE (by kernel_rfl) ?_
  refine ge_seq ?_
  obtain ⟨r5, hl6, hr⟩ := bind_some hr
  refine gk_join (fun t I' L' => ∃ r13, r5 = Sum.inl r13 ∧ I ≤ I' ∧ L = L' ∧ Knows 21 [] t) ?_ ?_
  · refine gk_block (by kernel_rfl) ?_
    refine gk_pick [7, 8, 9] (K' := [(7, .slice A0_0 a0.length n0_0), (8, .int .i64 (a0.length : Int)), (9, .int .i64 0)]) (by kernel_rfl) ?_
    intro t hK
    refine gc_loop (tocsinref26_sets_l17 a0) (fun s7 t I' L' => I ≤ I' ∧ L = L' ∧ Knows 21 [(7, .slice A0_0 a0.length n0_0), (8, .int .i64 (a0.length : Int)), (9, .int .i64 s7)] t) (by kernel_rfl) ?_ hl6 ⟨(Imm.refl _), rfl, hK⟩
    rintro s7 o8 t I12 L' hb9 ⟨hI10, rfl, hK11⟩
    unfold tocsinref26_sets_l17 at hb9
    refine gk_at hK11 ?_
    refine gk_seq (by kernel_rfl) ?_
    refine gk_region (by kernel_rfl) ?_
    refine gl_pure 1 [7, 8, 9, 10] (K' := [(7, .slice A0_0 a0.length n0_0), (8, .int .i64 (a0.length : Int)), (9, .int .i64 s7), (10, .bool (decide (s7 < (a0.length : Int))))]) (by kernel_rfl) ?_
    refine gl_atE (by kernel_rfl) ?_
    refine ge_seq ?_
    refine gk_seq (by kernel_rfl) ?_
    refine gk_cond (b := (decide (s7 < (a0.length : Int)))) (by kernel_rfl) (by kernel_rfl) (fun hc19 => ?_) (fun hc19 => ?_)
    · have hb9 := cond_t hc19 hb9
      refine gk_skip (by kernel_rfl) ?_
      refine ge_seq ?_
      refine gk_seq (by kernel_rfl) ?_
      refine gk_block (by kernel_rfl) ?_
      refine gk_seq (by kernel_rfl) ?_
      refine gk_region (by kernel_rfl) ?_
      obtain ⟨x20, hx21, hb9⟩ := bind_some hb9
      obtain ⟨p22, cs23, hR24, hA25, ha26⟩ := RepS.ixAt hx21 (hf0_0.mono hI10)
      have hi27 := ix_some hx21
      obtain ⟨A28, n29, rfl, hf30⟩ := sl_open hR24
      refine gl_indexAddrF (c := n0_0) (T' := 22) (e := 39) (xs := (.tmp 7)) (xi := (.tmp 9)) (kd := .i64) ha26 hi27.1 hi27.2.1 (by kernel_rfl) (by kernel_rfl) (by kernel_rfl) (by kernel_rfl) (by kernel_rfl) ?_
      refine gl_load (T' := 39) (xp := (.tmp 11)) (p := p22) (c := .slice A28 x20.length n29) (n := 1) (by kernel_rfl) (by kernel_rfl) (by kernel_rfl) (by kernel_rfl) hA25 ?_
      refine gl_pure 1 [4, 7, 8, 9] (K' := [(4, .slice A28 x20.length n29), (7, .slice A0_0 a0.length n0_0), (8, .int .i64 (a0.length : Int)), (9, .int .i64 s7)]) (by kernel_rfl) ?_
      refine gl_atE (by kernel_rfl) ?_
      refine ge_seq ?_
      refine gk_seq (by kernel_rfl) ?_
      refine gk_region (by kernel_rfl) ?_
      refine gl_pure 1 [7, 8, 9, 14] (K' := [(7, .slice A0_0 a0.length n0_0), (8, .int .i64 (a0.length : Int)), (9, .int .i64 s7), (14, .slice A28 x20.length n29)]) (by kernel_rfl) ?_
      obtain ⟨y31, hx32, hb9⟩ := bind_some hb9
      refine gl_callQ (by kernel_rfl) (tocsinref04_Right_walk (r := y31) hf30 hx32 _) ?_
      refine gl_pure 5 [5, 7, 8, 9] (K' := [(5, .int .i64 y31.1), (7, .slice A0_0 a0.length n0_0), (8, .int .i64 (a0.length : Int)), (9, .int .i64 s7)]) (by kernel_rfl) ?_
      refine gl_atE (by kernel_rfl) ?_
      refine ge_seq ?_
      refine gk_seq (by kernel_rfl) ?_
      refine gk_region (by kernel_rfl) ?_
      refine gl_pure 2 [7, 8, 9, 19] (K' := [(7, .slice A0_0 a0.length n0_0), (8, .int .i64 (a0.length : Int)), (9, .int .i64 s7), (19, .bool (y31.1 != 0))]) (by kernel_rfl) ?_
      refine gl_atE (by kernel_rfl) ?_
      refine ge_seq ?_
      refine gk_cond (b := (y31.1 != 0)) (by kernel_rfl) (by kernel_rfl) (fun hc33 => ?_) (fun hc33 => ?_)
      · have hb9 := cond_t hc33 hb9
        refine gk_seq (by kernel_rfl) ?_
        refine gk_region (by kernel_rfl) ?_
        refine gl_pure 1 [2] (K' := [(2, .bool false)]) (by kernel_rfl) ?_
        refine gl_atE (by kernel_rfl) ?_
        refine ge_seq ?_
        refine gk_ret (by kernel_rfl) ?_
        refine ge_block_ret ?_
        refine ge_seq_ret ?_
        obtain rfl := some_inj hb9
        refine ge_round_out (fun hrr => ?_) (by intro h; cases h)
        obtain rfl := hrr
        refine ge_block_ret ?_
        refine ge_seq_ret ?_
        refine ge_seq_ret ?_
        obtain rfl := some_inj hr
        exact ge_result trivial (ResOk.tmp (by kernel_rfl) ResOk.nil) hI10 ⟨rfl, rfl⟩
      · have hb9 := cond_f hc33 hb9
        refine gk_skip (by kernel_rfl) ?_
        refine ge_block_normal ?_
        refine ge_seq ?_
        refine gk_region (by kernel_rfl) ?_
        refine gl_pure 2 [7, 8, 9] (K' := [(7, .slice A0_0 a0.length n0_0), (8, .int .i64 (a0.length : Int)), (9, .int .i64 (IntKind.wrap .i64 (s7 + 1)))]) (by kernel_rfl) ?_
        refine gl_atE (by kernel_rfl) ?_
        obtain rfl := some_inj hb9
        exact ge_round fun t ht => ⟨hI10, rfl, ht.pick (l := [7, 8, 9]) (by kernel_rfl)⟩
    · have hb9 := cond_f hc19 hb9
      refine gk_exit (by kernel_rfl) ?_
      refine ge_seq_exit ?_
      obtain rfl := some_inj hb9
      refine ge_round_out (fun hrr => ?_) (by intro h; cases h)
      obtain rfl := hrr
      refine ge_block_hit (by kernel_rfl) ?_
      exact ge_mid fun t ht => ⟨_, rfl, hI10, rfl, ht.pick (l := []) (by kernel_rfl)⟩
  · rintro t I16 L' ⟨r13, rfl, hI14, rfl, hK15⟩
    refine ge_at hK15 ?_
    refine ge_seq ?_
    refine gk_seq (by kernel_rfl) ?_
    refine gk_region (by kernel_rfl) ?_
    refine gl_pure 1 [2] (K' := [(2, .bool true)]) (by kernel_rfl) ?_
    refine gl_atE (by kernel_rfl) ?_
    refine ge_seq ?_
    refine gk_ret (by kernel_rfl) ?_
    obtain rfl := some_inj hr
    exact ge_result trivial (ResOk.tmp (by kernel_rfl) ResOk.nil) hI14 ⟨rfl, rfl⟩
/-! 48 tocsinref04_side  -/
noncomputable def tocsinref04_side (a0 : ByteArray) (a1 : ByteArray) : Int :=
  bif (Op.bytesLess a0.toList a1.toList) then
  ((-1))
  else
  (bif (!((Op.bytesLess a0.toList a1.toList) || (a0.toList == a1.toList))) then
    (1)
    else
    (0))
theorem tocsinref04_side_walk {a0 : ByteArray} {a1 : ByteArray} {I : Imm} {r : Int}  (hr : tocsinref04_side a0 a1 = r) (L : Own) :
    CallsTo Tryd.prog 48 #[.string a0, .string a1] I L (fun v I' L' => v = .int .i64 r ∧ L = L') := by
  replace hr : some (tocsinref04_side a0 a1) = some r := congrArg some hr
  unfold tocsinref04_side at hr
  refine callsTo_body (N := 11) Tryd.func48 (by kernel_rfl) (by kernel_rfl) (by kernel_rfl) ?_
  refine gk_pick [0, 1] (K' := [(0, .string a0), (1, .string a1)]) (by kernel_rfl) ?_
  refine gk_seq (by kernel_rfl) ?_
  refine gk_region (by kernel_rfl) ?_
  refine gl_pure 1 [0, 1] (K' := [(0, .string a0), (1, .string a1)]) (by kernel_rfl) ?_
  refine gl_atE (by kernel_rfl) ?_
  refine ge_seq ?_
  refine gk_seq (by kernel_rfl) ?_
  refine gk_seq (by kernel_rfl) ?_
  refine gk_region (by kernel_rfl) ?_
  refine gl_pure 3 [0, 1, 7] (K' := [(0, .string a0), (1, .string a1), (7, .bool (Op.bytesLess a0.toList a1.toList))]) (by kernel_rfl) ?_
  refine gl_atE (by kernel_rfl) ?_
  refine ge_seq ?_
  refine gk_cond (b := (Op.bytesLess a0.toList a1.toList)) (by kernel_rfl) (by kernel_rfl) (fun hc1 => ?_) (fun hc1 => ?_)
  · have hr := scond_t hc1 hr
    refine gk_seq (by kernel_rfl) ?_
    refine gk_region (by kernel_rfl) ?_
    refine gl_pure 1 [4] (K' := [(4, .int .i64 (-1))]) (by kernel_rfl) ?_
    refine gl_atE (by kernel_rfl) ?_
    refine ge_seq ?_
    refine gk_ret (by kernel_rfl) ?_
    refine ge_seq_ret ?_
    obtain rfl := some_inj hr
    exact ge_result trivial (ResOk.tmp (by kernel_rfl) ResOk.nil) (Imm.refl _) ⟨rfl, rfl⟩
  · have hr := scond_f hc1 hr
    refine gk_skip (by kernel_rfl) ?_
    refine ge_seq ?_
    refine gk_seq (by kernel_rfl) ?_
    refine gk_seq (by kernel_rfl) ?_
    refine gk_region (by kernel_rfl) ?_
    refine gl_pure 3 [10] (K' := [(10, .bool (!((Op.bytesLess a0.toList a1.toList) || (a0.toList == a1.toList))))]) (by kernel_rfl) ?_
    refine gl_atE (by kernel_rfl) ?_
    refine ge_seq ?_
    refine gk_cond (b := (!((Op.bytesLess a0.toList a1.toList) || (a0.toList == a1.toList)))) (by kernel_rfl) (by kernel_rfl) (fun hc2 => ?_) (fun hc2 => ?_)
    · have hr := scond_t hc2 hr
      refine gk_seq (by kernel_rfl) ?_
      refine gk_region (by kernel_rfl) ?_
      refine gl_pure 1 [4] (K' := [(4, .int .i64 1)]) (by kernel_rfl) ?_
      refine gl_atE (by kernel_rfl) ?_
      refine ge_seq ?_
      refine gk_ret (by kernel_rfl) ?_
      refine ge_seq_ret ?_
      obtain rfl := some_inj hr
      exact ge_result trivial (ResOk.tmp (by kernel_rfl) ResOk.nil) (Imm.refl _) ⟨rfl, rfl⟩
    · have hr := scond_f hc2 hr
      refine gk_skip (by kernel_rfl) ?_
      refine ge_seq ?_
      refine gk_seq (by kernel_rfl) ?_
      refine gk_region (by kernel_rfl) ?_
      refine gl_pure 1 [4] (K' := [(4, .int .i64 0)]) (by kernel_rfl) ?_
      refine gl_atE (by kernel_rfl) ?_
      refine ge_seq ?_
      refine gk_ret (by kernel_rfl) ?_
      obtain rfl := some_inj hr
      exact ge_result trivial (ResOk.tmp (by kernel_rfl) ResOk.nil) (Imm.refl _) ⟨rfl, rfl⟩
/-! 33 tocsinref04_Compare  -/
noncomputable def tocsinref04_Compare_l17 (a0 : List S50) (a1 : List S50) : Int → Option ((Int) ⊕ ((Unit) ⊕ (Int))) := fun s7 =>
  bif ((decide (s7 < (a0.length : Int))) && (decide (s7 < (a1.length : Int)))) then
  (Option.bind (ix a0 s7) fun (x26 : S50) =>
    Option.bind (ix a1 s7) fun (x34 : S50) =>
    bif ((tocsinref04_side x26.f0 x34.f0) != 0) then
    (some (Sum.inr (Sum.inr (tocsinref04_side x26.f0 x34.f0))))
    else
    (Option.bind (ix a0 s7) fun (x43 : S50) =>
      Option.bind (ix a1 s7) fun (x51 : S50) =>
      bif ((tocsinref04_side x43.f1 x51.f1) != 0) then
      (some (Sum.inr (Sum.inr (tocsinref04_side x43.f1 x51.f1))))
      else
      (some (Sum.inl (IntKind.wrap .i64 (s7 + 1))))))
  else
  (some (Sum.inr (Sum.inl ())))
noncomputable def tocsinref04_Compare (a0 : List S50) (a1 : List S50) : Option Int :=
  Option.bind (loopO (tocsinref04_Compare_l17 a0 a1) 0) fun (r5 : (Unit) ⊕ (Int)) =>
  match r5 with
  | Sum.inl r13 => bif (decide ((a0.length : Int) < (a1.length : Int))) then
    (some (-1))
    else
    (bif (decide ((a0.length : Int) > (a1.length : Int))) then
      (some 1)
      else
      (some 0))
  | Sum.inr v62 => some v62
theorem tocsinref04_Compare_walk {a0 : List S50} {A0_0 : Option Addr} {n0_0 : Nat} {a1 : List S50} {A1_0 : Option Addr} {n1_0 : Nat} {I : Imm} {r : Int}  (hf0_0 : RepS kS50 I A0_0 n0_0 a0)  (hf1_0 : RepS kS50 I A1_0 n1_0 a1) (hr : tocsinref04_Compare a0 a1 = some r) (L : Own) :
    CallsTo Tryd.prog 33 #[.slice A0_0 a0.length n0_0, .slice A1_0 a1.length n1_0] I L (fun v I' L' => v = .int .i64 r ∧ L = L') := by
  unfold tocsinref04_Compare at hr
  refine callsTo_body (N := 58) Tryd.func33 (by kernel_rfl) (by kernel_rfl) (by kernel_rfl) ?_
  refine gk_pick [0, 1] (K' := [(0, .slice A0_0 a0.length n0_0), (1, .slice A1_0 a1.length n1_0)]) (by kernel_rfl) ?_
  refine gk_seq (by kernel_rfl) ?_
  refine gk_region (by kernel_rfl) ?_
  refine gl_pure 1 [0, 1] (K' := [(0, .slice A0_0 a0.length n0_0), (1, .slice A1_0 a1.length n1_0)]) (by kernel_rfl) ?_
  refine gl_atE (by kernel_rfl) ?_
  refine ge_seq ?_
  refine gk_seq (by kernel_rfl) ?_
  refine gk_seq (by kernel_rfl) ?_
  refine gk_region (by kernel_rfl) ?_
  refine gl_pure 1 [0, 1, 5] (K' := [(0, .slice A0_0 a0.length n0_0), (1, .slice A1_0 a1.length n1_0), (5, .int .i64 0)]) (by kernel_rfl) ?_
  refine gl_atE (by kernel_rfl) ?_
  refine ge_seq ?_
  obtain ⟨r5, hl6, hr⟩ := bind_some hr
  refine gk_join (fun t I' L' => ∃ r13, r5 = Sum.inl r13 ∧ I ≤ I' ∧ L = L' ∧ Knows 58 [(0, .slice A0_0 a0.length n0_0), (1, .slice A1_0 a1.length n1_0)] t) ?_ ?_
  · refine gk_block (by kernel_rfl) ?_
    refine gk_pick [0, 1, 5] (K' := [(0, .slice A0_0 a0.length n0_0), (1, .slice A1_0 a1.length n1_0), (5, .int .i64 0)]) (by kernel_rfl) ?_
    intro t hK
    refine gc_loop (tocsinref04_Compare_l17 a0 a1) (fun s7 t I' L' => I ≤ I' ∧ L = L' ∧ Knows 58 [(0, .slice A0_0 a0.length n0_0), (1, .slice A1_0 a1.length n1_0), (5, .int .i64 s7)] t) (by kernel_rfl) ?_ hl6 ⟨(Imm.refl _), rfl, hK⟩
    rintro s7 o8 t I12 L' hb9 ⟨hI10, rfl, hK11⟩
    unfold tocsinref04_Compare_l17 at hb9
    refine gk_at hK11 ?_
    refine gk_seq (by kernel_rfl) ?_
    refine gk_seq (by kernel_rfl) ?_
    obtain ⟨b21, hb22⟩ : ∃ z, z = ((decide (s7 < (a0.length : Int))) && (decide (s7 < (a1.length : Int)))) := ⟨_, rfl⟩
    refine gk_join (fun t I' L' => I12 ≤ I' ∧ L = L' ∧ Knows 58 [(0, .slice A0_0 a0.length n0_0), (1, .slice A1_0 a1.length n1_0), (5, .int .i64 s7), (17, .bool b21)] t) ?_ ?_
    · refine gk_region (by kernel_rfl) ?_
      refine gl_pure 5 [0, 1, 5, 12] (K' := [(0, .slice A0_0 a0.length n0_0), (1, .slice A1_0 a1.length n1_0), (5, .int .i64 s7), (12, .bool (decide (s7 < (a0.length : Int))))]) (by kernel_rfl) ?_
      refine gl_case 12 (b := (decide (s7 < (a0.length : Int)))) (by kernel_rfl) (fun hc24 => ?_) (fun hc24 => ?_)
      · refine gl_pure 5 [0, 1, 5, 17] (K' := [(0, .slice A0_0 a0.length n0_0), (1, .slice A1_0 a1.length n1_0), (5, .int .i64 s7), (17, .bool (decide (s7 < (a1.length : Int))))]) (by kernel_rfl) ?_
        refine gl_atE (by kernel_rfl) ?_
        exact ge_mid fun t ht => ⟨(Imm.refl _), rfl, by rw [(show b21 = (decide (s7 < (a1.length : Int))) from hb22.trans (by first | (rw [hc24]; done) | (rw [hc24]; rfl) | (simp [hc24]; done) | (simp only [hc24]; rfl) | (simp at *; omega)))]; exact ht.pick (l := [0, 1, 5, 17]) (by kernel_rfl)⟩
      · refine gl_pure 5 [0, 1, 5, 17] (K' := [(0, .slice A0_0 a0.length n0_0), (1, .slice A1_0 a1.length n1_0), (5, .int .i64 s7), (17, .bool false)]) (by kernel_rfl) ?_
        refine gl_atE (by kernel_rfl) ?_
        exact ge_mid fun t ht => ⟨(Imm.refl _), rfl, by rw [(show b21 = false from hb22.trans (by first | (rw [hc24]; done) | (rw [hc24]; rfl) | (simp [hc24]; done) | (simp only [hc24]; rfl) | (simp at *; omega)))]; exact ht.pick (l := [0, 1, 5, 17]) (by kernel_rfl)⟩
    · rintro t I23 L' ⟨hI19, rfl, hK20⟩
      subst hb22
      refine ge_at hK20 ?_
      refine ge_seq ?_
      refine gk_cond (b := ((decide (s7 < (a0.length : Int))) && (decide (s7 < (a1.length : Int))))) (by kernel_rfl) (by kernel_rfl) (fun hc25 => ?_) (fun hc25 => ?_)
      · have hb9 := cond_t hc25 hb9
        refine gk_skip (by kernel_rfl) ?_
        refine ge_seq ?_
        refine gk_seq (by kernel_rfl) ?_
        refine gk_block (by kernel_rfl) ?_
        refine gk_seq (by kernel_rfl) ?_
        refine gk_seq (by kernel_rfl) ?_
        refine gk_draw 10 [(0, true), (1, true), (2, true), (3, true), (4, true), (5, true), (6, true), (7, true), (8, true), (9, true)] [] (fun p hp => by cases hp) (by kernel_rfl) (by kernel_rfl) (by kernel_rfl) ?_ (by kernel_rfl)
        refine gd_pure 2 [0, 1, 5, 20, 21] (K' := [(0, .slice A0_0 a0.length n0_0), (1, .slice A1_0 a1.length n1_0), (5, .int .i64 s7), (20, .slice A0_0 a0.length n0_0), (21, .int .i64 s7)]) (s' := [(2, true), (3, true), (4, true), (5, true), (6, true), (7, true), (8, true), (9, true)]) (CC.refl (fun p hp => by cases hp)) (by kernel_rfl) ?_
        obtain ⟨x26, hx27, hb9⟩ := bind_some hb9
        obtain ⟨p28, cs29, hR30, hA31, ha32⟩ := RepS.ixAt hx27 (hf0_0.mono (Imm.trans hI10 hI19))
        have hi33 := ix_some hx27
        obtain rfl := kS50_open hR30
        refine gd_q (v := .pointer (some p28)) (by kernel_rfl) (by kernel_rfl) (CC.refl (fun p hp => by cases hp)) (fun I' L' T hC kk => gl_indexAddrF (c := n0_0) (T' := 39) (e := 51) (xs := (.tmp 20)) (xi := (.tmp 21)) (kd := .i64) ha32 hi33.1 hi33.2.1 (by kernel_rfl) (by kernel_rfl) (by kernel_rfl) (by kernel_rfl) (by kernel_rfl) kk) ?_
        refine gd_pure 1 [0, 1, 5, 23] (K' := [(0, .slice A0_0 a0.length n0_0), (1, .slice A1_0 a1.length n1_0), (5, .int .i64 s7), (23, .pointer (some (p28.add 0)))]) (s' := [(4, true), (5, true), (6, true), (7, true), (8, true), (9, true)]) (CC.refl (fun p hp => by cases hp)) (by kernel_rfl) ?_
        refine gd_q (v := .string x26.f0) (by kernel_rfl) (by kernel_rfl) (CC.refl (fun p hp => by cases hp)) (fun I' L' T hC kk => gl_load (T' := 9) (xp := (.tmp 23)) (p := (p28.add 0)) (c := .string x26.f0) (n := 1) (by kernel_rfl) (by kernel_rfl) (by kernel_rfl) (by kernel_rfl) ((hA31.drop 0).mono hC.le) kk) ?_
        refine gd_pure 2 [0, 1, 5, 24, 25, 26] (K' := [(0, .slice A0_0 a0.length n0_0), (1, .slice A1_0 a1.length n1_0), (5, .int .i64 s7), (24, .string x26.f0), (25, .slice A1_0 a1.length n1_0), (26, .int .i64 s7)]) (s' := [(7, true), (8, true), (9, true)]) (CC.refl (fun p hp => by cases hp)) (by kernel_rfl) ?_
        obtain ⟨x34, hx35, hb9⟩ := bind_some hb9
        obtain ⟨p36, cs37, hR38, hA39, ha40⟩ := RepS.ixAt hx35 (hf1_0.mono (Imm.trans hI10 hI19))
        have hi41 := ix_some hx35
        obtain rfl := kS50_open hR38
        refine gd_q (v := .pointer (some p36)) (by kernel_rfl) (by kernel_rfl) (CC.refl (fun p hp => by cases hp)) (fun I' L' T hC kk => gl_indexAddrF (c := n1_0) (T' := 39) (e := 51) (xs := (.tmp 25)) (xi := (.tmp 26)) (kd := .i64) ha40 hi41.1 hi41.2.1 (by kernel_rfl) (by kernel_rfl) (by kernel_rfl) (by kernel_rfl) (by kernel_rfl) kk) ?_
        refine gd_pure 1 [0, 1, 5, 24, 28] (K' := [(0, .slice A0_0 a0.length n0_0), (1, .slice A1_0 a1.length n1_0), (5, .int .i64 s7), (24, .string x26.f0), (28, .pointer (some (p36.add 0)))]) (s' := [(9, true)]) (CC.refl (fun p hp => by cases hp)) (by kernel_rfl) ?_
        refine gd_q (v := .string x34.f0) (by kernel_rfl) (by kernel_rfl) (CC.refl (fun p hp => by cases hp)) (fun I' L' T hC kk => gl_load (T' := 9) (xp := (.tmp 28)) (p := (p36.add 0)) (c := .string x34.f0) (n := 1) (by kernel_rfl) (by kernel_rfl) (by kernel_rfl) (by kernel_rfl) ((hA39.drop 0).mono hC.le) kk) ?_
        refine gd_done ?_
        refine gl_callQ (by kernel_rfl) (tocsinref04_side_walk (r := (tocsinref04_side x26.f0 x34.f0))  rfl _) ?_
        refine gl_pure 1 [0, 1, 5, 6] (K' := [(0, .slice A0_0 a0.length n0_0), (1, .slice A1_0 a1.length n1_0), (5, .int .i64 s7), (6, .int .i64 (tocsinref04_side x26.f0 x34.f0))]) (by kernel_rfl) ?_
        refine gl_atE (by kernel_rfl) ?_
        refine ge_seq ?_
        refine gk_seq (by kernel_rfl) ?_
        refine gk_region (by kernel_rfl) ?_
        refine gl_pure 2 [0, 1, 5, 6, 32] (K' := [(0, .slice A0_0 a0.length n0_0), (1, .slice A1_0 a1.length n1_0), (5, .int .i64 s7), (6, .int .i64 (tocsinref04_side x26.f0 x34.f0)), (32, .bool ((tocsinref04_side x26.f0 x34.f0) != 0))]) (by kernel_rfl) ?_
        refine gl_atE (by kernel_rfl) ?_
        refine ge_seq ?_
        refine gk_cond (b := ((tocsinref04_side x26.f0 x34.f0) != 0)) (by kernel_rfl) (by kernel_rfl) (fun hc42 => ?_) (fun hc42 => ?_)
        · have hb9 := cond_t hc42 hb9
          refine gk_seq (by kernel_rfl) ?_
          refine gk_region (by kernel_rfl) ?_
          refine gl_pure 2 [4] (K' := [(4, .int .i64 (tocsinref04_side x26.f0 x34.f0))]) (by kernel_rfl) ?_
          refine gl_atE (by kernel_rfl) ?_
          refine ge_seq ?_
          refine gk_ret (by kernel_rfl) ?_
          refine ge_seq_ret ?_
          refine ge_block_ret ?_
          refine ge_seq_ret ?_
          obtain rfl := some_inj hb9
          refine ge_round_out (fun hrr => ?_) (by intro h; cases h)
          obtain rfl := hrr
          refine ge_block_ret ?_
          refine ge_seq_ret ?_
          refine ge_seq_ret ?_
          obtain rfl := some_inj hr
          exact ge_result trivial (ResOk.tmp (by kernel_rfl) ResOk.nil) (Imm.trans hI10 hI19) ⟨rfl, rfl⟩
        · have hb9 := cond_f hc42 hb9
          refine gk_skip (by kernel_rfl) ?_
          refine ge_seq ?_
          refine gk_seq (by kernel_rfl) ?_
          refine gk_draw 10 [(0, true), (1, true), (2, true), (3, true), (4, true), (5, true), (6, true), (7, true), (8, true), (9, true)] [] (fun p hp => by cases hp) (by kernel_rfl) (by kernel_rfl) (by kernel_rfl) ?_ (by kernel_rfl)
          refine gd_pure 2 [0, 1, 5, 34, 35] (K' := [(0, .slice A0_0 a0.length n0_0), (1, .slice A1_0 a1.length n1_0), (5, .int .i64 s7), (34, .slice A0_0 a0.length n0_0), (35, .int .i64 s7)]) (s' := [(2, true), (3, true), (4, true), (5, true), (6, true), (7, true), (8, true), (9, true)]) (CC.refl (fun p hp => by cases hp)) (by kernel_rfl) ?_
          obtain ⟨x43, hx44, hb9⟩ := bind_some hb9
          obtain ⟨p45, cs46, hR47, hA48, ha49⟩ := RepS.ixAt hx44 (hf0_0.mono (Imm.trans hI10 hI19))
          have hi50 := ix_some hx44
          obtain rfl := kS50_open hR47
          refine gd_q (v := .pointer (some p45)) (by kernel_rfl) (by kernel_rfl) (CC.refl (fun p hp => by cases hp)) (fun I' L' T hC kk => gl_indexAddrF (c := n0_0) (T' := 39) (e := 51) (xs := (.tmp 34)) (xi := (.tmp 35)) (kd := .i64) ha49 hi50.1 hi50.2.1 (by kernel_rfl) (by kernel_rfl) (by kernel_rfl) (by kernel_rfl) (by kernel_rfl) kk) ?_
          refine gd_pure 1 [0, 1, 5, 37] (K' := [(0, .slice A0_0 a0.length n0_0), (1, .slice A1_0 a1.length n1_0), (5, .int .i64 s7), (37, .pointer (some (p45.add 1)))]) (s' := [(4, true), (5, true), (6, true), (7, true), (8, true), (9, true)]) (CC.refl (fun p hp => by cases hp)) (by kernel_rfl) ?_
          refine gd_q (v := .string x43.f1) (by kernel_rfl) (by kernel_rfl) (CC.refl (fun p hp => by cases hp)) (fun I' L' T hC kk => gl_load (T' := 9) (xp := (.tmp 37)) (p := (p45.add 1)) (c := .string x43.f1) (n := 1) (by kernel_rfl) (by kernel_rfl) (by kernel_rfl) (by kernel_rfl) ((hA48.drop 1).mono hC.le) kk) ?_
          refine gd_pure 2 [0, 1, 5, 38, 39, 40] (K' := [(0, .slice A0_0 a0.length n0_0), (1, .slice A1_0 a1.length n1_0), (5, .int .i64 s7), (38, .string x43.f1), (39, .slice A1_0 a1.length n1_0), (40, .int .i64 s7)]) (s' := [(7, true), (8, true), (9, true)]) (CC.refl (fun p hp => by cases hp)) (by kernel_rfl) ?_
          obtain ⟨x51, hx52, hb9⟩ := bind_some hb9
          obtain ⟨p53, cs54, hR55, hA56, ha57⟩ := RepS.ixAt hx52 (hf1_0.mono (Imm.trans hI10 hI19))
          have hi58 := ix_some hx52
          obtain rfl := kS50_open hR55
          refine gd_q (v := .pointer (some p53)) (by kernel_rfl) (by kernel_rfl) (CC.refl (fun p hp => by cases hp)) (fun I' L' T hC kk => gl_indexAddrF (c := n1_0) (T' := 39) (e := 51) (xs := (.tmp 39)) (xi := (.tmp 40)) (kd := .i64) ha57 hi58.1 hi58.2.1 (by kernel_rfl) (by kernel_rfl) (by kernel_rfl) (by kernel_rfl) (by kernel_rfl) kk) ?_
          refine gd_pure 1 [0, 1, 5, 38, 42] (K' := [(0, .slice A0_0 a0.length n0_0), (1, .slice A1_0 a1.length n1_0), (5, .int .i64 s7), (38, .string x43.f1), (42, .pointer (some (p53.add 1)))]) (s' := [(9, true)]) (CC.refl (fun p hp => by cases hp)) (by kernel_rfl) ?_
          refine gd_q (v := .string x51.f1) (by kernel_rfl) (by kernel_rfl) (CC.refl (fun p hp => by cases hp)) (fun I' L' T hC kk => gl_load (T' := 9) (xp := (.tmp 42)) (p := (p53.add 1)) (c := .string x51.f1) (n := 1) (by kernel_rfl) (by kernel_rfl) (by kernel_rfl) (by kernel_rfl) ((hA56.drop 1).mono hC.le) kk) ?_
          refine gd_done ?_
          refine gl_callQ (by kernel_rfl) (tocsinref04_side_walk (r := (tocsinref04_side x43.f1 x51.f1))  rfl _) ?_
          refine gl_pure 1 [0, 1, 5, 7] (K' := [(0, .slice A0_0 a0.length n0_0), (1, .slice A1_0 a1.length n1_0), (5, .int .i64 s7), (7, .int .i64 (tocsinref04_side x43.f1 x51.f1))]) (by kernel_rfl) ?_
          refine gl_atE (by kernel_rfl) ?_
          refine ge_seq ?_
          refine gk_seq (by kernel_rfl) ?_
          refine gk_region (by kernel_rfl) ?_
          refine gl_pure 2 [0, 1, 5, 7, 46] (K' := [(0, .slice A0_0 a0.length n0_0), (1, .slice A1_0 a1.length n1_0), (5, .int .i64 s7), (7, .int .i64 (tocsinref04_side x43.f1 x51.f1)), (46, .bool ((tocsinref04_side x43.f1 x51.f1) != 0))]) (by kernel_rfl) ?_
          refine gl_atE (by kernel_rfl) ?_
          refine ge_seq ?_
          refine gk_cond (b := ((tocsinref04_side x43.f1 x51.f1) != 0)) (by kernel_rfl) (by kernel_rfl) (fun hc59 => ?_) (fun hc59 => ?_)
          · have hb9 := cond_t hc59 hb9
            refine gk_seq (by kernel_rfl) ?_
            refine gk_region (by kernel_rfl) ?_
            refine gl_pure 2 [4] (K' := [(4, .int .i64 (tocsinref04_side x43.f1 x51.f1))]) (by kernel_rfl) ?_
            refine gl_atE (by kernel_rfl) ?_
            refine ge_seq ?_
            refine gk_ret (by kernel_rfl) ?_
            refine ge_block_ret ?_
            refine ge_seq_ret ?_
            obtain rfl := some_inj hb9
            refine ge_round_out (fun hrr => ?_) (by intro h; cases h)
            obtain rfl := hrr
            refine ge_block_ret ?_
            refine ge_seq_ret ?_
            refine ge_seq_ret ?_
            obtain rfl := some_inj hr
            exact ge_result trivial (ResOk.tmp (by kernel_rfl) ResOk.nil) (Imm.trans hI10 hI19) ⟨rfl, rfl⟩
          · have hb9 := cond_f hc59 hb9
            refine gk_skip (by kernel_rfl) ?_
            refine ge_block_normal ?_
            refine ge_seq ?_
            refine gk_region (by kernel_rfl) ?_
            refine gl_pure 3 [0, 1, 5] (K' := [(0, .slice A0_0 a0.length n0_0), (1, .slice A1_0 a1.length n1_0), (5, .int .i64 (IntKind.wrap .i64 (s7 + 1)))]) (by kernel_rfl) ?_
            refine gl_atE (by kernel_rfl) ?_
            obtain rfl := some_inj hb9
            exact ge_round fun t ht => ⟨(Imm.trans hI10 hI19), rfl, ht.pick (l := [0, 1, 5]) (by kernel_rfl)⟩
      · have hb9 := cond_f hc25 hb9
        refine gk_exit (by kernel_rfl) ?_
        refine ge_seq_exit ?_
        obtain rfl := some_inj hb9
        refine ge_round_out (fun hrr => ?_) (by intro h; cases h)
        obtain rfl := hrr
        refine ge_block_hit (by kernel_rfl) ?_
        exact ge_mid fun t ht => ⟨_, rfl, (Imm.trans hI10 hI19), rfl, ht.pick (l := [0, 1]) (by kernel_rfl)⟩
  · rintro t I16 L' ⟨r13, rfl, hI14, rfl, hK15⟩
    refine ge_at hK15 ?_
    refine ge_seq ?_
    refine gk_seq (by kernel_rfl) ?_
    refine gk_seq (by kernel_rfl) ?_
    refine gk_region (by kernel_rfl) ?_
    refine gl_pure 5 [0, 1, 52] (K' := [(0, .slice A0_0 a0.length n0_0), (1, .slice A1_0 a1.length n1_0), (52, .bool (decide ((a0.length : Int) < (a1.length : Int))))]) (by kernel_rfl) ?_
    refine gl_atE (by kernel_rfl) ?_
    refine ge_seq ?_
    refine gk_cond (b := (decide ((a0.length : Int) < (a1.length : Int)))) (by kernel_rfl) (by kernel_rfl) (fun hc60 => ?_) (fun hc60 => ?_)
    · have hr := cond_t hc60 hr
      refine gk_seq (by kernel_rfl) ?_
      refine gk_region (by kernel_rfl) ?_
      refine gl_pure 1 [4] (K' := [(4, .int .i64 (-1))]) (by kernel_rfl) ?_
      refine gl_atE (by kernel_rfl) ?_
      refine ge_seq ?_
      refine gk_ret (by kernel_rfl) ?_
      refine ge_seq_ret ?_
      obtain rfl := some_inj hr
      exact ge_result trivial (ResOk.tmp (by kernel_rfl) ResOk.nil) hI14 ⟨rfl, rfl⟩
    · have hr := cond_f hc60 hr
      refine gk_skip (by kernel_rfl) ?_
      refine ge_seq ?_
      refine gk_seq (by kernel_rfl) ?_
      refine gk_seq (by kernel_rfl) ?_
      refine gk_region (by kernel_rfl) ?_
      refine gl_pure 5 [57] (K' := [(57, .bool (decide ((a0.length : Int) > (a1.length : Int))))]) (by kernel_rfl) ?_
      refine gl_atE (by kernel_rfl) ?_
      refine ge_seq ?_
      refine gk_cond (b := (decide ((a0.length : Int) > (a1.length : Int)))) (by kernel_rfl) (by kernel_rfl) (fun hc61 => ?_) (fun hc61 => ?_)
      · have hr := cond_t hc61 hr
        refine gk_seq (by kernel_rfl) ?_
        refine gk_region (by kernel_rfl) ?_
        refine gl_pure 1 [4] (K' := [(4, .int .i64 1)]) (by kernel_rfl) ?_
        refine gl_atE (by kernel_rfl) ?_
        refine ge_seq ?_
        refine gk_ret (by kernel_rfl) ?_
        refine ge_seq_ret ?_
        obtain rfl := some_inj hr
        exact ge_result trivial (ResOk.tmp (by kernel_rfl) ResOk.nil) hI14 ⟨rfl, rfl⟩
      · have hr := cond_f hc61 hr
        refine gk_skip (by kernel_rfl) ?_
        refine ge_seq ?_
        refine gk_seq (by kernel_rfl) ?_
        refine gk_region (by kernel_rfl) ?_
        refine gl_pure 1 [4] (K' := [(4, .int .i64 0)]) (by kernel_rfl) ?_
        refine gl_atE (by kernel_rfl) ?_
        refine ge_seq ?_
        refine gk_ret (by kernel_rfl) ?_
        obtain rfl := some_inj hr
        exact ge_result trivial (ResOk.tmp (by kernel_rfl) ResOk.nil) hI14 ⟨rfl, rfl⟩
/-! 24 tocsinref26_rising  -/
noncomputable def tocsinref26_rising_l17 (a0 : List (List S50)) : Int → Option ((Int) ⊕ ((Unit) ⊕ (Bool))) := fun s7 =>
  bif (decide (s7 < (a0.length : Int))) then
  (Option.bind (ix a0 s7) fun (x20 : List S50) =>
    Option.bind (tocsinref04_Right x20) fun (y31 : Int × Int) =>
    Option.bind (bif (y31.1 != 0) then
      (some true)
      else
      (bif (decide (s7 > 0)) then
        (Option.bind (ix a0 (IntKind.wrap .i64 (s7 - 1))) fun (x40 : List S50) =>
          Option.bind (tocsinref04_Compare x40 x20) fun (y51 : Int) =>
          some (decide (y51 ≥ 0)))
        else
        (some false))) fun (j33 : Bool) =>
    bif j33 then
    (some (Sum.inr (Sum.inr false)))
    else
    (some (Sum.inl (IntKind.wrap .i64 (s7 + 1)))))
  else
  (some (Sum.inr (Sum.inl ())))
noncomputable def tocsinref26_rising (a0 : List (List S50)) : Option Bool :=
  Option.bind (loopO (tocsinref26_rising_l17 a0) 0) fun (r5 : (Unit) ⊕ (Bool)) =>
  match r5 with
  | Sum.inl r13 => some true
  | Sum.inr v54 => some v54
theorem tocsinref26_rising_walk {a0 : List (List S50)} {A0_0 : Option Addr} {n0_0 : Nat} {I : Imm} {r : Bool}  (hf0_0 : RepS (Kd.sl kS50) I A0_0 n0_0 a0) (hr : tocsinref26_rising a0 = some r) (L : Own) :
    CallsTo Tryd.prog 24 #[.slice A0_0 a0.length n0_0] I L (fun v I' L' => v = .bool r ∧ L = L') := by
  unfold tocsinref26_rising at hr
  refine callsTo_body (N := 36) Tryd.func24 (by kernel_rfl) (by kernel_rfl) (by kernel_rfl) ?_
  refine gk_pick [0] (K' := [(0, .slice A0_0 a0.length n0_0)]) (by kernel_rfl) ?_
  refine gk_seq (by kernel_rfl) ?_
  refine gk_region (by kernel_rfl) ?_
  refine gl_pure 1 [0] (K' := [(0, .slice A0_0 a0.length n0_0)]) (by kernel_rfl) ?_
  refine gl_atE (by kernel_rfl) ?_
  refine ge_seq ?_
  refine gk_seq (by kernel_rfl) ?_
  refine gk_seq (by kernel_rfl) ?_
  refine gk_region (by kernel_rfl) ?_
  refine gl_pure 3 [0, 7, 8, 9] (K' := [(0, .slice A0_0 a0.length n0_0), (7, .slice A0_0 a0.length n0_0), (8, .int .i64 (a0.length : Int)), (9, .int .i64 0)]) (by kernel_rfl) ?_
  refine gl_atE (by kernel_rfl) ?_
  refine ge_seq ?_
  obtain ⟨r5, hl6, hr⟩ := bind_some hr
  refine gk_join (fun t I' L' => ∃ r13, r5 = Sum.inl r13 ∧ I ≤ I' ∧ L = L' ∧ Knows 36 [] t) ?_ ?_
  · refine gk_block (by kernel_rfl) ?_
    refine gk_pick [0, 7, 8, 9] (K' := [(0, .slice A0_0 a0.length n0_0), (7, .slice A0_0 a0.length n0_0), (8, .int .i64 (a0.length : Int)), (9, .int .i64 0)]) (by kernel_rfl) ?_
    intro t hK
    refine gc_loop (tocsinref26_rising_l17 a0) (fun s7 t I' L' => I ≤ I' ∧ L = L' ∧ Knows 36 [(0, .slice A0_0 a0.length n0_0), (7, .slice A0_0 a0.length n0_0), (8, .int .i64 (a0.length : Int)), (9, .int .i64 s7)] t) (by kernel_rfl) ?_ hl6 ⟨(Imm.refl _), rfl, hK⟩
    rintro s7 o8 t I12 L' hb9 ⟨hI10, rfl, hK11⟩
    unfold tocsinref26_rising_l17 at hb9
    refine gk_at hK11 ?_
    refine gk_seq (by kernel_rfl) ?_
    refine gk_region (by kernel_rfl) ?_
    refine gl_pure 1 [0, 7, 8, 9, 10] (K' := [(0, .slice A0_0 a0.length n0_0), (7, .slice A0_0 a0.length n0_0), (8, .int .i64 (a0.length : Int)), (9, .int .i64 s7), (10, .bool (decide (s7 < (a0.length : Int))))]) (by kernel_rfl) ?_
    refine gl_atE (by kernel_rfl) ?_
    refine ge_seq ?_
    refine gk_seq (by kernel_rfl) ?_
    refine gk_cond (b := (decide (s7 < (a0.length : Int)))) (by kernel_rfl) (by kernel_rfl) (fun hc19 => ?_) (fun hc19 => ?_)
    · have hb9 := cond_t hc19 hb9
      refine gk_skip (by kernel_rfl) ?_
      refine ge_seq ?_
      refine gk_seq (by kernel_rfl) ?_
      refine gk_block (by kernel_rfl) ?_
      refine gk_seq (by kernel_rfl) ?_
      refine gk_region (by kernel_rfl) ?_
      refine gl_pure 1 [0, 7, 8, 9, 11] (K' := [(0, .slice A0_0 a0.length n0_0), (7, .slice A0_0 a0.length n0_0), (8, .int .i64 (a0.length : Int)), (9, .int .i64 s7), (11, .int .i64 s7)]) (by kernel_rfl) ?_
      obtain ⟨x20, hx21, hb9⟩ := bind_some hb9
      obtain ⟨p22, cs23, hR24, hA25, ha26⟩ := RepS.ixAt hx21 (hf0_0.mono hI10)
      have hi27 := ix_some hx21
      obtain ⟨A28, n29, rfl, hf30⟩ := sl_open hR24
      refine gl_indexAddrF (c := n0_0) (T' := 22) (e := 39) (xs := (.tmp 7)) (xi := (.tmp 9)) (kd := .i64) ha26 hi27.1 hi27.2.1 (by kernel_rfl) (by kernel_rfl) (by kernel_rfl) (by kernel_rfl) (by kernel_rfl) ?_
      refine gl_load (T' := 39) (xp := (.tmp 12)) (p := p22) (c := .slice A28 x20.length n29) (n := 1) (by kernel_rfl) (by kernel_rfl) (by kernel_rfl) (by kernel_rfl) hA25 ?_
      refine gl_pure 2 [0, 3, 4, 7, 8, 9] (K' := [(0, .slice A0_0 a0.length n0_0), (3, .int .i64 s7), (4, .slice A28 x20.length n29), (7, .slice A0_0 a0.length n0_0), (8, .int .i64 (a0.length : Int)), (9, .int .i64 s7)]) (by kernel_rfl) ?_
      refine gl_atE (by kernel_rfl) ?_
      refine ge_seq ?_
      refine gk_seq (by kernel_rfl) ?_
      refine gk_region (by kernel_rfl) ?_
      refine gl_pure 1 [0, 3, 4, 7, 8, 9, 15] (K' := [(0, .slice A0_0 a0.length n0_0), (3, .int .i64 s7), (4, .slice A28 x20.length n29), (7, .slice A0_0 a0.length n0_0), (8, .int .i64 (a0.length : Int)), (9, .int .i64 s7), (15, .slice A28 x20.length n29)]) (by kernel_rfl) ?_
      obtain ⟨y31, hx32, hb9⟩ := bind_some hb9
      refine gl_callQ (by kernel_rfl) (tocsinref04_Right_walk (r := y31) hf30 hx32 _) ?_
      refine gl_pure 5 [0, 3, 4, 5, 7, 8, 9] (K' := [(0, .slice A0_0 a0.length n0_0), (3, .int .i64 s7), (4, .slice A28 x20.length n29), (5, .int .i64 y31.1), (7, .slice A0_0 a0.length n0_0), (8, .int .i64 (a0.length : Int)), (9, .int .i64 s7)]) (by kernel_rfl) ?_
      refine gl_atE (by kernel_rfl) ?_
      refine ge_seq ?_
      refine gk_seq (by kernel_rfl) ?_
      obtain ⟨j33, hj34, hb9⟩ := bind_some hb9
      refine gk_join (fun t I' L' => I12 ≤ I' ∧ L = L' ∧ Knows 36 [(0, .slice A0_0 a0.length n0_0), (7, .slice A0_0 a0.length n0_0), (8, .int .i64 (a0.length : Int)), (9, .int .i64 s7), (34, .bool j33)] t) ?_ ?_
      · refine gk_region (by kernel_rfl) ?_
        refine gl_pure 3 [0, 3, 4, 7, 8, 9, 21] (K' := [(0, .slice A0_0 a0.length n0_0), (3, .int .i64 s7), (4, .slice A28 x20.length n29), (7, .slice A0_0 a0.length n0_0), (8, .int .i64 (a0.length : Int)), (9, .int .i64 s7), (21, .bool (y31.1 != 0))]) (by kernel_rfl) ?_
        refine gl_case 21 (b := (y31.1 != 0)) (by kernel_rfl) (fun hc38 => ?_) (fun hc38 => ?_)
        · have hj34 := cond_t hc38 hj34
          refine gl_pure 13 [0, 7, 8, 9, 34] (K' := [(0, .slice A0_0 a0.length n0_0), (7, .slice A0_0 a0.length n0_0), (8, .int .i64 (a0.length : Int)), (9, .int .i64 s7), (34, .bool true)]) (by kernel_rfl) ?_
          refine gl_atE (by kernel_rfl) ?_
          obtain rfl := some_inj hj34
          exact ge_mid fun t ht => ⟨(Imm.refl _), rfl, ht.pick (l := [0, 7, 8, 9, 34]) (by kernel_rfl)⟩
        · have hj34 := cond_f hc38 hj34
          refine gl_pure 3 [0, 3, 4, 7, 8, 9, 21, 24] (K' := [(0, .slice A0_0 a0.length n0_0), (3, .int .i64 s7), (4, .slice A28 x20.length n29), (7, .slice A0_0 a0.length n0_0), (8, .int .i64 (a0.length : Int)), (9, .int .i64 s7), (21, .bool false), (24, .bool (decide (s7 > 0)))]) (by kernel_rfl) ?_
          refine gl_case 24 (b := (decide (s7 > 0))) (by kernel_rfl) (fun hc39 => ?_) (fun hc39 => ?_)
          · have hj34 := cond_t hc39 hj34
            refine gl_pure 3 [0, 4, 7, 8, 9, 21, 24, 25, 27] (K' := [(0, .slice A0_0 a0.length n0_0), (4, .slice A28 x20.length n29), (7, .slice A0_0 a0.length n0_0), (8, .int .i64 (a0.length : Int)), (9, .int .i64 s7), (21, .bool false), (24, .bool true), (25, .slice A0_0 a0.length n0_0), (27, .int .i64 (IntKind.wrap .i64 (s7 - 1)))]) (by kernel_rfl) ?_
            obtain ⟨x40, hx41, hj34⟩ := bind_some hj34
            obtain ⟨p42, cs43, hR44, hA45, ha46⟩ := RepS.ixAt hx41 (hf0_0.mono hI10)
            have hi47 := ix_some hx41
            obtain ⟨A48, n49, rfl, hf50⟩ := sl_open hR44
            refine gl_indexAddrF (c := n0_0) (T' := 22) (e := 39) (xs := (.tmp 25)) (xi := (.tmp 27)) (kd := .i64) ha46 hi47.1 hi47.2.1 (by kernel_rfl) (by kernel_rfl) (by kernel_rfl) (by kernel_rfl) (by kernel_rfl) ?_
            refine gl_load (T' := 39) (xp := (.tmp 28)) (p := p42) (c := .slice A48 x40.length n49) (n := 1) (by kernel_rfl) (by kernel_rfl) (by kernel_rfl) (by kernel_rfl) hA45 ?_
            refine gl_pure 1 [0, 7, 8, 9, 21, 24, 29, 30] (K' := [(0, .slice A0_0 a0.length n0_0), (7, .slice A0_0 a0.length n0_0), (8, .int .i64 (a0.length : Int)), (9, .int .i64 s7), (21, .bool false), (24, .bool true), (29, .slice A48 x40.length n49), (30, .slice A28 x20.length n29)]) (by kernel_rfl) ?_
            obtain ⟨y51, hx52, hj34⟩ := bind_some hj34
            refine gl_callQ (by kernel_rfl) (tocsinref04_Compare_walk (r := y51) hf50 hf30 hx52 _) ?_
            refine gl_pure 3 [0, 7, 8, 9, 34] (K' := [(0, .slice A0_0 a0.length n0_0), (7, .slice A0_0 a0.length n0_0), (8, .int .i64 (a0.length : Int)), (9, .int .i64 s7), (34, .bool (decide (y51 ≥ 0)))]) (by kernel_rfl) ?_
            refine gl_atE (by kernel_rfl) ?_
            obtain rfl := some_inj hj34
            exact ge_mid fun t ht => ⟨(Imm.refl _), rfl, ht.pick (l := [0, 7, 8, 9, 34]) (by kernel_rfl)⟩
          · have hj34 := cond_f hc39 hj34
            refine gl_pure 10 [0, 7, 8, 9, 34] (K' := [(0, .slice A0_0 a0.length n0_0), (7, .slice A0_0 a0.length n0_0), (8, .int .i64 (a0.length : Int)), (9, .int .i64 s7), (34, .bool false)]) (by kernel_rfl) ?_
            refine gl_atE (by kernel_rfl) ?_
            obtain rfl := some_inj hj34
            exact ge_mid fun t ht => ⟨(Imm.refl _), rfl, ht.pick (l := [0, 7, 8, 9, 34]) (by kernel_rfl)⟩
      · rintro t I37 L' ⟨hI35, rfl, hK36⟩
        refine ge_at hK36 ?_
        refine ge_seq ?_
        refine gk_cond (b := j33) (by kernel_rfl) (by kernel_rfl) (fun hc53 => ?_) (fun hc53 => ?_)
        · have hb9 := cond_t hc53 hb9
          refine gk_seq (by kernel_rfl) ?_
          refine gk_region (by kernel_rfl) ?_
          refine gl_pure 1 [2] (K' := [(2, .bool false)]) (by kernel_rfl) ?_
          refine gl_atE (by kernel_rfl) ?_
          refine ge_seq ?_
          refine gk_ret (by kernel_rfl) ?_
          refine ge_block_ret ?_
          refine ge_seq_ret ?_
          obtain rfl := some_inj hb9
          refine ge_round_out (fun hrr => ?_) (by intro h; cases h)
          obtain rfl := hrr
          refine ge_block_ret ?_
          refine ge_seq_ret ?_
          refine ge_seq_ret ?_
          obtain rfl := some_inj hr
          exact ge_result trivial (ResOk.tmp (by kernel_rfl) ResOk.nil) (Imm.trans hI10 hI35) ⟨rfl, rfl⟩
        · have hb9 := cond_f hc53 hb9
          refine gk_skip (by kernel_rfl) ?_
          refine ge_block_normal ?_
          refine ge_seq ?_
          refine gk_region (by kernel_rfl) ?_
          refine gl_pure 2 [0, 7, 8, 9] (K' := [(0, .slice A0_0 a0.length n0_0), (7, .slice A0_0 a0.length n0_0), (8, .int .i64 (a0.length : Int)), (9, .int .i64 (IntKind.wrap .i64 (s7 + 1)))]) (by kernel_rfl) ?_
          refine gl_atE (by kernel_rfl) ?_
          obtain rfl := some_inj hb9
          exact ge_round fun t ht => ⟨(Imm.trans hI10 hI35), rfl, ht.pick (l := [0, 7, 8, 9]) (by kernel_rfl)⟩
    · have hb9 := cond_f hc19 hb9
      refine gk_exit (by kernel_rfl) ?_
      refine ge_seq_exit ?_
      obtain rfl := some_inj hb9
      refine ge_round_out (fun hrr => ?_) (by intro h; cases h)
      obtain rfl := hrr
      refine ge_block_hit (by kernel_rfl) ?_
      exact ge_mid fun t ht => ⟨_, rfl, hI10, rfl, ht.pick (l := []) (by kernel_rfl)⟩
  · rintro t I16 L' ⟨r13, rfl, hI14, rfl, hK15⟩
    refine ge_at hK15 ?_
    refine ge_seq ?_
    refine gk_seq (by kernel_rfl) ?_
    refine gk_region (by kernel_rfl) ?_
    refine gl_pure 1 [2] (K' := [(2, .bool true)]) (by kernel_rfl) ?_
    refine gl_atE (by kernel_rfl) ?_
    refine ge_seq ?_
    refine gk_ret (by kernel_rfl) ?_
    obtain rfl := some_inj hr
    exact ge_result trivial (ResOk.tmp (by kernel_rfl) ResOk.nil) hI14 ⟨rfl, rfl⟩
/-! 9 tocsinref26_Right  -/
noncomputable def tocsinref26_Right (a0 : S23) : Option Int :=
  Option.bind (bif (a0.f0.toList == (⟨#[]⟩ : ByteArray).toList) then
    (some true)
    else
    (bif (decide ((a0.f0.size : Int) > 64)) then
      (some true)
      else
      (Option.bind (tocsinref01_Utf8 a0.f0) fun (y9 : Bool) =>
        some (!y9)))) fun (j2 : Bool) =>
  bif j2 then
  (some 204)
  else
  (Option.bind (bif (a0.f1.toList == (⟨#[]⟩ : ByteArray).toList) then
      (some true)
      else
      (bif (decide ((a0.f1.size : Int) > 65536)) then
        (some true)
        else
        (Option.bind (tocsinref01_Utf8 a0.f1) fun (y19 : Bool) =>
          some (!y19)))) fun (j12 : Bool) =>
    bif j12 then
    (some 40)
    else
    (bif (!(tocsinref26_time a0.f2)) then
      (some 1)
      else
      (bif ((decide ((a0.f3.length : Int) > 500)) || (decide ((a0.f4.length : Int) > 500))) then
        (some 8)
        else
        (Option.bind (Option.bind (tocsinref26_rising a0.f3) fun (y35 : Bool) =>
            bif (!y35) then
            (some true)
            else
            (Option.bind (tocsinref26_rising a0.f4) fun (y38 : Bool) =>
              some (!y38))) fun (j30 : Bool) =>
          bif j30 then
          (some 41)
          else
          (some 0)))))
theorem tocsinref26_Right_walk {a0 : S23} {A0_3 : Option Addr} {n0_3 : Nat} {A0_4 : Option Addr} {n0_4 : Nat} {I : Imm} {r : Int}  (hf0_3 : RepS (Kd.sl kS50) I A0_3 n0_3 a0.f3) (hf0_4 : RepS (Kd.sl kS50) I A0_4 n0_4 a0.f4) (hr : tocsinref26_Right a0 = some r) (L : Own) :
    CallsTo Tryd.prog 9 #[.agg #[.string a0.f0, .string a0.f1, .int .i64 a0.f2, .slice A0_3 a0.f3.length n0_3, .slice A0_4 a0.f4.length n0_4]] I L (fun v I' L' => v = .int .i64 r ∧ L = L') := by
  unfold tocsinref26_Right at hr
  refine callsTo_body (N := 62) Tryd.func9 (by kernel_rfl) (by kernel_rfl) (by kernel_rfl) ?_
  refine gk_pick [0] (K' := [(0, .agg #[.string a0.f0, .string a0.f1, .int .i64 a0.f2, .slice A0_3 a0.f3.length n0_3, .slice A0_4 a0.f4.length n0_4])]) (by kernel_rfl) ?_
  refine gk_seq (by kernel_rfl) ?_
  refine gk_region (by kernel_rfl) ?_
  refine gl_box (T' := 24) (x := (.tmp 0)) (v := .agg #[.string a0.f0, .string a0.f1, .int .i64 a0.f2, .slice A0_3 a0.f3.length n0_3, .slice A0_4 a0.f4.length n0_4]) (cs := #[.string a0.f0, .string a0.f1, .int .i64 a0.f2, .slice A0_3 a0.f3.length n0_3, .slice A0_4 a0.f4.length n0_4]) (by kernel_rfl) (by kernel_rfl) (by kernel_rfl) (by kernel_rfl) (fun g1 => ?_)
  refine gl_pure 1 [1] (K' := [(1, .pointer (some ⟨g1, 0, none⟩))]) (by kernel_rfl) ?_
  refine gl_atE (by kernel_rfl) ?_
  refine ge_seq ?_
  refine gk_seq (by kernel_rfl) ?_
  refine gk_block (by kernel_rfl) ?_
  refine gk_seq (by kernel_rfl) ?_
  obtain ⟨j2, hj3, hr⟩ := bind_some hr
  refine gk_join (fun t I' L' => I ≤ I' ∧ (g1, .cells #[.string a0.f0, .string a0.f1, .int .i64 a0.f2, .slice A0_3 a0.f3.length n0_3, .slice A0_4 a0.f4.length n0_4] 24) :: L = L' ∧ Knows 62 [(1, .pointer (some ⟨g1, 0, none⟩)), (3, .bool j2)] t) ?_ ?_
  · refine gk_region (by kernel_rfl) ?_
    refine gl_pure 1 [1, 4] (K' := [(1, .pointer (some ⟨g1, 0, none⟩)), (4, .pointer (some ⟨g1, 0, none⟩))]) (by kernel_rfl) ?_
    refine gl_loadB (T' := 9) (xp := (.tmp 4)) (v := .string a0.f0) (g := g1) (off := 0) (cs := #[.string a0.f0, .string a0.f1, .int .i64 a0.f2, .slice A0_3 a0.f3.length n0_3, .slice A0_4 a0.f4.length n0_4]) (e := 24) (fz := (0, 0)) (by kernel_rfl) (by kernel_rfl) (by kernel_rfl) List.mem_cons_self (by kernel_rfl) ?_
    refine gl_pure 2 [1, 7] (K' := [(1, .pointer (some ⟨g1, 0, none⟩)), (7, .bool (a0.f0.toList == (⟨#[]⟩ : ByteArray).toList))]) (by kernel_rfl) ?_
    refine gl_case 7 (b := (a0.f0.toList == (⟨#[]⟩ : ByteArray).toList)) (by kernel_rfl) (fun hc7 => ?_) (fun hc7 => ?_)
    · have hj3 := cond_t hc7 hj3
      refine gl_pure 12 [1, 3] (K' := [(1, .pointer (some ⟨g1, 0, none⟩)), (3, .bool true)]) (by kernel_rfl) ?_
      refine gl_atE (by kernel_rfl) ?_
      obtain rfl := some_inj hj3
      exact ge_mid fun t ht => ⟨(Imm.refl _), rfl, ht.pick (l := [1, 3]) (by kernel_rfl)⟩
    · have hj3 := cond_f hc7 hj3
      refine gl_pure 1 [1, 7, 8] (K' := [(1, .pointer (some ⟨g1, 0, none⟩)), (7, .bool false), (8, .pointer (some ⟨g1, 0, none⟩))]) (by kernel_rfl) ?_
      refine gl_loadB (T' := 9) (xp := (.tmp 8)) (v := .string a0.f0) (g := g1) (off := 0) (cs := #[.string a0.f0, .string a0.f1, .int .i64 a0.f2, .slice A0_3 a0.f3.length n0_3, .slice A0_4 a0.f4.length n0_4]) (e := 24) (fz := (0, 0)) (by kernel_rfl) (by kernel_rfl) (by kernel_rfl) List.mem_cons_self (by kernel_rfl) ?_
      refine gl_pure 4 [1, 13] (K' := [(1, .pointer (some ⟨g1, 0, none⟩)), (13, .bool (decide ((a0.f0.size : Int) > 64)))]) (by kernel_rfl) ?_
      refine gl_case 13 (b := (decide ((a0.f0.size : Int) > 64))) (by kernel_rfl) (fun hc8 => ?_) (fun hc8 => ?_)
      · have hj3 := cond_t hc8 hj3
        refine gl_pure 6 [1, 3] (K' := [(1, .pointer (some ⟨g1, 0, none⟩)), (3, .bool true)]) (by kernel_rfl) ?_
        refine gl_atE (by kernel_rfl) ?_
        obtain rfl := some_inj hj3
        exact ge_mid fun t ht => ⟨(Imm.refl _), rfl, ht.pick (l := [1, 3]) (by kernel_rfl)⟩
      · have hj3 := cond_f hc8 hj3
        refine gl_pure 1 [1, 13, 14] (K' := [(1, .pointer (some ⟨g1, 0, none⟩)), (13, .bool false), (14, .pointer (some ⟨g1, 0, none⟩))]) (by kernel_rfl) ?_
        refine gl_loadB (T' := 9) (xp := (.tmp 14)) (v := .string a0.f0) (g := g1) (off := 0) (cs := #[.string a0.f0, .string a0.f1, .int .i64 a0.f2, .slice A0_3 a0.f3.length n0_3, .slice A0_4 a0.f4.length n0_4]) (e := 24) (fz := (0, 0)) (by kernel_rfl) (by kernel_rfl) (by kernel_rfl) List.mem_cons_self (by kernel_rfl) ?_
        obtain ⟨y9, hx10, hj3⟩ := bind_some hj3
        refine gl_callQ (by kernel_rfl) (tocsinref01_Utf8_walk (r := y9)  hx10 _) ?_
        refine gl_pure 3 [1, 3] (K' := [(1, .pointer (some ⟨g1, 0, none⟩)), (3, .bool (!y9))]) (by kernel_rfl) ?_
        refine gl_atE (by kernel_rfl) ?_
        obtain rfl := some_inj hj3
        exact ge_mid fun t ht => ⟨(Imm.refl _), rfl, ht.pick (l := [1, 3]) (by kernel_rfl)⟩
  · rintro t I6 L' ⟨hI4, rfl, hK5⟩
    refine ge_at hK5 ?_
    refine ge_seq ?_
    refine gk_cond (b := j2) (by kernel_rfl) (by kernel_rfl) (fun hc11 => ?_) (fun hc11 => ?_)
    · have hr := cond_t hc11 hr
      refine gk_seq (by kernel_rfl) ?_
      refine gk_region (by kernel_rfl) ?_
      refine gl_pure 1 [2] (K' := [(2, .int .i64 204)]) (by kernel_rfl) ?_
      refine gl_atE (by kernel_rfl) ?_
      refine ge_seq ?_
      refine gk_reord (D := L) (Reord.skip (Reord.refl _)) ?_
      refine gk_ret (by kernel_rfl) ?_
      refine ge_block_ret ?_
      refine ge_seq_ret ?_
      obtain rfl := some_inj hr
      exact ge_result trivial (ResOk.tmp (by kernel_rfl) ResOk.nil) hI4 ⟨rfl, rfl⟩
    · have hr := cond_f hc11 hr
      refine gk_seq (by kernel_rfl) ?_
      obtain ⟨j12, hj13, hr⟩ := bind_some hr
      refine gk_join (fun t I' L' => I6 ≤ I' ∧ (g1, .cells #[.string a0.f0, .string a0.f1, .int .i64 a0.f2, .slice A0_3 a0.f3.length n0_3, .slice A0_4 a0.f4.length n0_4] 24) :: L = L' ∧ Knows 62 [(1, .pointer (some ⟨g1, 0, none⟩)), (19, .bool j12)] t) ?_ ?_
      · refine gk_region (by kernel_rfl) ?_
        refine gl_pure 1 [1, 20] (K' := [(1, .pointer (some ⟨g1, 0, none⟩)), (20, .pointer (some ⟨g1, 1, none⟩))]) (by kernel_rfl) ?_
        refine gl_loadB (T' := 9) (xp := (.tmp 20)) (v := .string a0.f1) (g := g1) (off := 1) (cs := #[.string a0.f0, .string a0.f1, .int .i64 a0.f2, .slice A0_3 a0.f3.length n0_3, .slice A0_4 a0.f4.length n0_4]) (e := 24) (fz := (0, 0)) (by kernel_rfl) (by kernel_rfl) (by kernel_rfl) List.mem_cons_self (by kernel_rfl) ?_
        refine gl_pure 2 [1, 23] (K' := [(1, .pointer (some ⟨g1, 0, none⟩)), (23, .bool (a0.f1.toList == (⟨#[]⟩ : ByteArray).toList))]) (by kernel_rfl) ?_
        refine gl_case 23 (b := (a0.f1.toList == (⟨#[]⟩ : ByteArray).toList)) (by kernel_rfl) (fun hc17 => ?_) (fun hc17 => ?_)
        · have hj13 := cond_t hc17 hj13
          refine gl_pure 12 [1, 19] (K' := [(1, .pointer (some ⟨g1, 0, none⟩)), (19, .bool true)]) (by kernel_rfl) ?_
          refine gl_atE (by kernel_rfl) ?_
          obtain rfl := some_inj hj13
          exact ge_mid fun t ht => ⟨(Imm.refl _), rfl, ht.pick (l := [1, 19]) (by kernel_rfl)⟩
        · have hj13 := cond_f hc17 hj13
          refine gl_pure 1 [1, 23, 24] (K' := [(1, .pointer (some ⟨g1, 0, none⟩)), (23, .bool false), (24, .pointer (some ⟨g1, 1, none⟩))]) (by kernel_rfl) ?_
          refine gl_loadB (T' := 9) (xp := (.tmp 24)) (v := .string a0.f1) (g := g1) (off := 1) (cs := #[.string a0.f0, .string a0.f1, .int .i64 a0.f2, .slice A0_3 a0.f3.length n0_3, .slice A0_4 a0.f4.length n0_4]) (e := 24) (fz := (0, 0)) (by kernel_rfl) (by kernel_rfl) (by kernel_rfl) List.mem_cons_self (by kernel_rfl) ?_
          refine gl_pure 4 [1, 29] (K' := [(1, .pointer (some ⟨g1, 0, none⟩)), (29, .bool (decide ((a0.f1.size : Int) > 65536)))]) (by kernel_rfl) ?_
          refine gl_case 29 (b := (decide ((a0.f1.size : Int) > 65536))) (by kernel_rfl) (fun hc18 => ?_) (fun hc18 => ?_)
          · have hj13 := cond_t hc18 hj13
            refine gl_pure 6 [1, 19] (K' := [(1, .pointer (some ⟨g1, 0, none⟩)), (19, .bool true)]) (by kernel_rfl) ?_
            refine gl_atE (by kernel_rfl) ?_
            obtain rfl := some_inj hj13
            exact ge_mid fun t ht => ⟨(Imm.refl _), rfl, ht.pick (l := [1, 19]) (by kernel_rfl)⟩
          · have hj13 := cond_f hc18 hj13
            refine gl_pure 1 [1, 29, 30] (K' := [(1, .pointer (some ⟨g1, 0, none⟩)), (29, .bool false), (30, .pointer (some ⟨g1, 1, none⟩))]) (by kernel_rfl) ?_
            refine gl_loadB (T' := 9) (xp := (.tmp 30)) (v := .string a0.f1) (g := g1) (off := 1) (cs := #[.string a0.f0, .string a0.f1, .int .i64 a0.f2, .slice A0_3 a0.f3.length n0_3, .slice A0_4 a0.f4.length n0_4]) (e := 24) (fz := (0, 0)) (by kernel_rfl) (by kernel_rfl) (by kernel_rfl) List.mem_cons_self (by kernel_rfl) ?_
            obtain ⟨y19, hx20, hj13⟩ := bind_some hj13
            refine gl_callQ (by kernel_rfl) (tocsinref01_Utf8_walk (r := y19)  hx20 _) ?_
            refine gl_pure 3 [1, 19] (K' := [(1, .pointer (some ⟨g1, 0, none⟩)), (19, .bool (!y19))]) (by kernel_rfl) ?_
            refine gl_atE (by kernel_rfl) ?_
            obtain rfl := some_inj hj13
            exact ge_mid fun t ht => ⟨(Imm.refl _), rfl, ht.pick (l := [1, 19]) (by kernel_rfl)⟩
      · rintro t I16 L' ⟨hI14, rfl, hK15⟩
        refine ge_at hK15 ?_
        refine ge_seq ?_
        refine gk_cond (b := j12) (by kernel_rfl) (by kernel_rfl) (fun hc21 => ?_) (fun hc21 => ?_)
        · have hr := cond_t hc21 hr
          refine gk_seq (by kernel_rfl) ?_
          refine gk_region (by kernel_rfl) ?_
          refine gl_pure 1 [2] (K' := [(2, .int .i64 40)]) (by kernel_rfl) ?_
          refine gl_atE (by kernel_rfl) ?_
          refine ge_seq ?_
          refine gk_reord (D := L) (Reord.skip (Reord.refl _)) ?_
          refine gk_ret (by kernel_rfl) ?_
          refine ge_block_ret ?_
          refine ge_seq_ret ?_
          obtain rfl := some_inj hr
          exact ge_result trivial (ResOk.tmp (by kernel_rfl) ResOk.nil) (Imm.trans hI4 hI14) ⟨rfl, rfl⟩
        · have hr := cond_f hc21 hr
          refine gk_seq (by kernel_rfl) ?_
          refine gk_region (by kernel_rfl) ?_
          refine gl_pure 1 [1, 36] (K' := [(1, .pointer (some ⟨g1, 0, none⟩)), (36, .pointer (some ⟨g1, 2, none⟩))]) (by kernel_rfl) ?_
          refine gl_loadB (T' := 2) (xp := (.tmp 36)) (v := .int .i64 a0.f2) (g := g1) (off := 2) (cs := #[.string a0.f0, .string a0.f1, .int .i64 a0.f2, .slice A0_3 a0.f3.length n0_3, .slice A0_4 a0.f4.length n0_4]) (e := 24) (fz := (0, 0)) (by kernel_rfl) (by kernel_rfl) (by kernel_rfl) List.mem_cons_self (by kernel_rfl) ?_
          refine gl_callQ (by kernel_rfl) (tocsinref26_time_walk (r := (tocsinref26_time a0.f2))  rfl _) ?_
          refine gl_pure 2 [1, 35] (K' := [(1, .pointer (some ⟨g1, 0, none⟩)), (35, .bool (!(tocsinref26_time a0.f2)))]) (by kernel_rfl) ?_
          refine gl_atE (by kernel_rfl) ?_
          refine ge_seq ?_
          refine gk_cond (b := (!(tocsinref26_time a0.f2))) (by kernel_rfl) (by kernel_rfl) (fun hc22 => ?_) (fun hc22 => ?_)
          · have hr := cond_t hc22 hr
            refine gk_seq (by kernel_rfl) ?_
            refine gk_region (by kernel_rfl) ?_
            refine gl_pure 1 [2] (K' := [(2, .int .i64 1)]) (by kernel_rfl) ?_
            refine gl_atE (by kernel_rfl) ?_
            refine ge_seq ?_
            refine gk_reord (D := L) (Reord.skip (Reord.refl _)) ?_
            refine gk_ret (by kernel_rfl) ?_
            refine ge_block_ret ?_
            refine ge_seq_ret ?_
            obtain rfl := some_inj hr
            exact ge_result trivial (ResOk.tmp (by kernel_rfl) ResOk.nil) (Imm.trans hI4 hI14) ⟨rfl, rfl⟩
          · have hr := cond_f hc22 hr
            refine gk_seq (by kernel_rfl) ?_
            obtain ⟨b25, hb26⟩ : ∃ z, z = ((decide ((a0.f3.length : Int) > 500)) || (decide ((a0.f4.length : Int) > 500))) := ⟨_, rfl⟩
            refine gk_join (fun t I' L' => I16 ≤ I' ∧ (g1, .cells #[.string a0.f0, .string a0.f1, .int .i64 a0.f2, .slice A0_3 a0.f3.length n0_3, .slice A0_4 a0.f4.length n0_4] 24) :: L = L' ∧ Knows 62 [(1, .pointer (some ⟨g1, 0, none⟩)), (40, .bool b25)] t) ?_ ?_
            · refine gk_region (by kernel_rfl) ?_
              refine gl_pure 1 [1, 41] (K' := [(1, .pointer (some ⟨g1, 0, none⟩)), (41, .pointer (some ⟨g1, 3, none⟩))]) (by kernel_rfl) ?_
              refine gl_loadB (T' := 22) (xp := (.tmp 41)) (v := .slice A0_3 a0.f3.length n0_3) (g := g1) (off := 3) (cs := #[.string a0.f0, .string a0.f1, .int .i64 a0.f2, .slice A0_3 a0.f3.length n0_3, .slice A0_4 a0.f4.length n0_4]) (e := 24) (fz := (0, 0)) (by kernel_rfl) (by kernel_rfl) (by kernel_rfl) List.mem_cons_self (by kernel_rfl) ?_
              refine gl_pure 3 [1, 45] (K' := [(1, .pointer (some ⟨g1, 0, none⟩)), (45, .bool (decide ((a0.f3.length : Int) > 500)))]) (by kernel_rfl) ?_
              refine gl_case 45 (b := (decide ((a0.f3.length : Int) > 500))) (by kernel_rfl) (fun hc28 => ?_) (fun hc28 => ?_)
              · refine gl_pure 6 [1, 40] (K' := [(1, .pointer (some ⟨g1, 0, none⟩)), (40, .bool true)]) (by kernel_rfl) ?_
                refine gl_atE (by kernel_rfl) ?_
                exact ge_mid fun t ht => ⟨(Imm.refl _), rfl, by rw [(show b25 = true from hb26.trans (by first | (rw [hc28]; done) | (rw [hc28]; rfl) | (simp [hc28]; done) | (simp only [hc28]; rfl) | (simp at *; omega)))]; exact ht.pick (l := [1, 40]) (by kernel_rfl)⟩
              · refine gl_pure 1 [1, 45, 46] (K' := [(1, .pointer (some ⟨g1, 0, none⟩)), (45, .bool false), (46, .pointer (some ⟨g1, 4, none⟩))]) (by kernel_rfl) ?_
                refine gl_loadB (T' := 22) (xp := (.tmp 46)) (v := .slice A0_4 a0.f4.length n0_4) (g := g1) (off := 4) (cs := #[.string a0.f0, .string a0.f1, .int .i64 a0.f2, .slice A0_3 a0.f3.length n0_3, .slice A0_4 a0.f4.length n0_4]) (e := 24) (fz := (0, 0)) (by kernel_rfl) (by kernel_rfl) (by kernel_rfl) List.mem_cons_self (by kernel_rfl) ?_
                refine gl_pure 4 [1, 40] (K' := [(1, .pointer (some ⟨g1, 0, none⟩)), (40, .bool (decide ((a0.f4.length : Int) > 500)))]) (by kernel_rfl) ?_
                refine gl_atE (by kernel_rfl) ?_
                exact ge_mid fun t ht => ⟨(Imm.refl _), rfl, by rw [(show b25 = (decide ((a0.f4.length : Int) > 500)) from hb26.trans (by first | (rw [hc28]; done) | (rw [hc28]; rfl) | (simp [hc28]; done) | (simp only [hc28]; rfl) | (simp at *; omega)))]; exact ht.pick (l := [1, 40]) (by kernel_rfl)⟩
            · rintro t I27 L' ⟨hI23, rfl, hK24⟩
              subst hb26
              refine ge_at hK24 ?_
              refine ge_seq ?_
              refine gk_cond (b := ((decide ((a0.f3.length : Int) > 500)) || (decide ((a0.f4.length : Int) > 500)))) (by kernel_rfl) (by kernel_rfl) (fun hc29 => ?_) (fun hc29 => ?_)
              · have hr := cond_t hc29 hr
                refine gk_seq (by kernel_rfl) ?_
                refine gk_region (by kernel_rfl) ?_
                refine gl_pure 1 [2] (K' := [(2, .int .i64 8)]) (by kernel_rfl) ?_
                refine gl_atE (by kernel_rfl) ?_
                refine ge_seq ?_
                refine gk_reord (D := L) (Reord.skip (Reord.refl _)) ?_
                refine gk_ret (by kernel_rfl) ?_
                refine ge_block_ret ?_
                refine ge_seq_ret ?_
                obtain rfl := some_inj hr
                exact ge_result trivial (ResOk.tmp (by kernel_rfl) ResOk.nil) (Imm.trans (Imm.trans hI4 hI14) hI23) ⟨rfl, rfl⟩
              · have hr := cond_f hc29 hr
                refine gk_seq (by kernel_rfl) ?_
                obtain ⟨j30, hj31, hr⟩ := bind_some hr
                refine gk_join (fun t I' L' => I27 ≤ I' ∧ L = L' ∧ Knows 62 [(51, .bool j30)] t) ?_ ?_
                · refine gk_region (by kernel_rfl) ?_
                  refine gl_pure 1 [1, 52] (K' := [(1, .pointer (some ⟨g1, 0, none⟩)), (52, .pointer (some ⟨g1, 3, none⟩))]) (by kernel_rfl) ?_
                  refine gl_loadB (T' := 22) (xp := (.tmp 52)) (v := .slice A0_3 a0.f3.length n0_3) (g := g1) (off := 3) (cs := #[.string a0.f0, .string a0.f1, .int .i64 a0.f2, .slice A0_3 a0.f3.length n0_3, .slice A0_4 a0.f4.length n0_4]) (e := 24) (fz := (0, 0)) (by kernel_rfl) (by kernel_rfl) (by kernel_rfl) List.mem_cons_self (by kernel_rfl) ?_
                  obtain ⟨y35, hx36, hj31⟩ := bind_some hj31
                  refine gl_callQ (by kernel_rfl) (tocsinref26_rising_walk (r := y35) (hf0_3.mono (Imm.trans (Imm.trans hI4 hI14) hI23)) hx36 _) ?_
                  refine gl_pure 2 [1, 56] (K' := [(1, .pointer (some ⟨g1, 0, none⟩)), (56, .bool (!y35))]) (by kernel_rfl) ?_
                  refine gl_case 56 (b := (!y35)) (by kernel_rfl) (fun hc37 => ?_) (fun hc37 => ?_)
                  · have hj31 := cond_t hc37 hj31
                    refine gl_pure 6 [51] (K' := [(51, .bool true)]) (by kernel_rfl) ?_
                    refine gl_reord (D := L) (Reord.skip (Reord.refl _)) ?_
                    refine gl_atE (by kernel_rfl) ?_
                    obtain rfl := some_inj hj31
                    exact ge_mid fun t ht => ⟨(Imm.refl _), rfl, ht.pick (l := [51]) (by kernel_rfl)⟩
                  · have hj31 := cond_f hc37 hj31
                    refine gl_pure 1 [56, 57] (K' := [(56, .bool false), (57, .pointer (some ⟨g1, 4, none⟩))]) (by kernel_rfl) ?_
                    refine gl_loadB (T' := 22) (xp := (.tmp 57)) (v := .slice A0_4 a0.f4.length n0_4) (g := g1) (off := 4) (cs := #[.string a0.f0, .string a0.f1, .int .i64 a0.f2, .slice A0_3 a0.f3.length n0_3, .slice A0_4 a0.f4.length n0_4]) (e := 24) (fz := (0, 0)) (by kernel_rfl) (by kernel_rfl) (by kernel_rfl) List.mem_cons_self (by kernel_rfl) ?_
                    obtain ⟨y38, hx39, hj31⟩ := bind_some hj31
                    refine gl_callQ (by kernel_rfl) (tocsinref26_rising_walk (r := y38) (hf0_4.mono (Imm.trans (Imm.trans hI4 hI14) hI23)) hx39 _) ?_
                    refine gl_pure 3 [51] (K' := [(51, .bool (!y38))]) (by kernel_rfl) ?_
                    refine gl_reord (D := L) (Reord.skip (Reord.refl _)) ?_
                    refine gl_atE (by kernel_rfl) ?_
                    obtain rfl := some_inj hj31
                    exact ge_mid fun t ht => ⟨(Imm.refl _), rfl, ht.pick (l := [51]) (by kernel_rfl)⟩
                · rintro t I34 L' ⟨hI32, rfl, hK33⟩
                  refine ge_at hK33 ?_
                  refine ge_seq ?_
                  refine gk_cond (b := j30) (by kernel_rfl) (by kernel_rfl) (fun hc40 => ?_) (fun hc40 => ?_)
                  · have hr := cond_t hc40 hr
                    refine gk_seq (by kernel_rfl) ?_
                    refine gk_region (by kernel_rfl) ?_
                    refine gl_pure 1 [2] (K' := [(2, .int .i64 41)]) (by kernel_rfl) ?_
                    refine gl_atE (by kernel_rfl) ?_
                    refine ge_seq ?_
                    refine gk_ret (by kernel_rfl) ?_
                    refine ge_block_ret ?_
                    refine ge_seq_ret ?_
                    obtain rfl := some_inj hr
                    exact ge_result trivial (ResOk.tmp (by kernel_rfl) ResOk.nil) (Imm.trans (Imm.trans (Imm.trans hI4 hI14) hI23) hI32) ⟨rfl, rfl⟩
                  · have hr := cond_f hc40 hr
                    refine gk_skip (by kernel_rfl) ?_
                    refine ge_block_normal ?_
                    refine ge_seq ?_
                    refine gk_seq (by kernel_rfl) ?_
                    refine gk_region (by kernel_rfl) ?_
                    refine gl_pure 1 [2] (K' := [(2, .int .i64 0)]) (by kernel_rfl) ?_
                    refine gl_atE (by kernel_rfl) ?_
                    refine ge_seq ?_
                    refine gk_ret (by kernel_rfl) ?_
                    obtain rfl := some_inj hr
                    exact ge_result trivial (ResOk.tmp (by kernel_rfl) ResOk.nil) (Imm.trans (Imm.trans (Imm.trans hI4 hI14) hI23) hI32) ⟨rfl, rfl⟩
/-! 28 tocsinref04_Same  -/
noncomputable def tocsinref04_Same (a0 : List S50) (a1 : List S50) : Option Bool :=
  Option.bind (tocsinref04_Compare a0 a1) fun (y1 : Int) =>
  some (y1 == 0)
theorem tocsinref04_Same_walk {a0 : List S50} {A0_0 : Option Addr} {n0_0 : Nat} {a1 : List S50} {A1_0 : Option Addr} {n1_0 : Nat} {I : Imm} {r : Bool}  (hf0_0 : RepS kS50 I A0_0 n0_0 a0)  (hf1_0 : RepS kS50 I A1_0 n1_0 a1) (hr : tocsinref04_Same a0 a1 = some r) (L : Own) :
    CallsTo Tryd.prog 28 #[.slice A0_0 a0.length n0_0, .slice A1_0 a1.length n1_0] I L (fun v I' L' => v = .bool r ∧ L = L') := by
  unfold tocsinref04_Same at hr
  refine callsTo_body (N := 9) Tryd.func28 (by kernel_rfl) (by kernel_rfl) (by kernel_rfl) ?_
  refine gk_pick [0, 1] (K' := [(0, .slice A0_0 a0.length n0_0), (1, .slice A1_0 a1.length n1_0)]) (by kernel_rfl) ?_
  refine gk_seq (by kernel_rfl) ?_
  refine gk_region (by kernel_rfl) ?_
  refine gl_pure 1 [0, 1] (K' := [(0, .slice A0_0 a0.length n0_0), (1, .slice A1_0 a1.length n1_0)]) (by kernel_rfl) ?_
  refine gl_atE (by kernel_rfl) ?_
  refine ge_seq ?_
  refine gk_seq (by kernel_rfl) ?_
  refine gk_region (by kernel_rfl) ?_
  refine gl_pure 2 [5, 6] (K' := [(5, .slice A0_0 a0.length n0_0), (6, .slice A1_0 a1.length n1_0)]) (by kernel_rfl) ?_
  obtain ⟨y1, hx2, hr⟩ := bind_some hr
  refine gl_callQ (by kernel_rfl) (tocsinref04_Compare_walk (r := y1) hf0_0 hf1_0 hx2 _) ?_
  refine gl_pure 2 [4] (K' := [(4, .bool (y1 == 0))]) (by kernel_rfl) ?_
  refine gl_atE (by kernel_rfl) ?_
  refine ge_seq ?_
  refine gk_ret (by kernel_rfl) ?_
  obtain rfl := some_inj hr
  exact ge_result trivial (ResOk.tmp (by kernel_rfl) ResOk.nil) (Imm.refl _) ⟨rfl, rfl⟩
/-! 11 tocsinref26_Within  -/
noncomputable def tocsinref26_Within_l46 (a1 : List (List S50)) (x20 : List S50) : (Bool × Int) → Option ((Bool × Int) ⊕ (Bool)) := fun s37 =>
  bif (decide (s37.2 < (a1.length : Int))) then
  (Option.bind (ix a1 s37.2) fun (x49 : List S50) =>
    Option.bind (bif s37.1 then
      (some true)
      else
      (Option.bind (tocsinref04_Same x20 x49) fun (y66 : Bool) =>
        some y66)) fun (j60 : Bool) =>
    some (Sum.inl (j60, (IntKind.wrap .i64 (s37.2 + 1)))))
  else
  (some (Sum.inr s37.1))
noncomputable def tocsinref26_Within_l17 (a0 : List (List S50)) (a1 : List (List S50)) : Int → Option ((Int) ⊕ ((Unit) ⊕ (Bool))) := fun s7 =>
  bif (decide (s7 < (a0.length : Int))) then
  (Option.bind (ix a0 s7) fun (x20 : List S50) =>
    Option.bind (loopO (tocsinref26_Within_l46 a1 x20) (false, 0)) fun (r35 : Bool) =>
    bif (!r35) then
    (some (Sum.inr (Sum.inr false)))
    else
    (some (Sum.inl (IntKind.wrap .i64 (s7 + 1)))))
  else
  (some (Sum.inr (Sum.inl ())))
noncomputable def tocsinref26_Within (a0 : List (List S50)) (a1 : List (List S50)) : Option Bool :=
  Option.bind (loopO (tocsinref26_Within_l17 a0 a1) 0) fun (r5 : (Unit) ⊕ (Bool)) =>
  match r5 with
  | Sum.inl r13 => some true
  | Sum.inr v69 => some v69
theorem tocsinref26_Within_walk {a0 : List (List S50)} {A0_0 : Option Addr} {n0_0 : Nat} {a1 : List (List S50)} {A1_0 : Option Addr} {n1_0 : Nat} {I : Imm} {r : Bool}  (hf0_0 : RepS (Kd.sl kS50) I A0_0 n0_0 a0)  (hf1_0 : RepS (Kd.sl kS50) I A1_0 n1_0 a1) (hr : tocsinref26_Within a0 a1 = some r) (L : Own) :
    CallsTo Tryd.prog 11 #[.slice A0_0 a0.length n0_0, .slice A1_0 a1.length n1_0] I L (fun v I' L' => v = .bool r ∧ L = L') := by
  unfold tocsinref26_Within at hr
  refine callsTo_body (N := 32) Tryd.func11 (by kernel_rfl) (by kernel_rfl) (by kernel_rfl) ?_
  refine gk_pick [0, 1] (K' := [(0, .slice A0_0 a0.length n0_0), (1, .slice A1_0 a1.length n1_0)]) (by kernel_rfl) ?_
  refine gk_seq (by kernel_rfl) ?_
  refine gk_region (by kernel_rfl) ?_
  refine gl_pure 1 [0, 1] (K' := [(0, .slice A0_0 a0.length n0_0), (1, .slice A1_0 a1.length n1_0)]) (by kernel_rfl) ?_
  refine gl_atE (by kernel_rfl) ?_
  refine ge_seq ?_
  refine gk_seq (by kernel_rfl) ?_
  refine gk_seq (by kernel_rfl) ?_
  refine gk_region (by kernel_rfl) ?_
  refine gl_pure 3 [1, 10, 11, 12] (K' := [(1, .slice A1_0 a1.length n1_0), (10, .slice A0_0 a0.length n0_0), (11, .int .i64 (a0.length : Int)), (12, .int .i64 0)]) (by kernel_rfl) ?_
  refine gl_atE (by kernel_rfl) ?_
  refine ge_seq ?_
  obtain ⟨r5, hl6, hr⟩ := bind_some hr
  refine gk_join (fun t I' L' => ∃ r13, r5 = Sum.inl r13 ∧ I ≤ I' ∧ L = L' ∧ Knows 32 [] t) ?_ ?_
  · refine gk_block (by kernel_rfl) ?_
    refine gk_pick [1, 10, 11, 12] (K' := [(1, .slice A1_0 a1.length n1_0), (10, .slice A0_0 a0.length n0_0), (11, .int .i64 (a0.length : Int)), (12, .int .i64 0)]) (by kernel_rfl) ?_
    intro t hK
    refine gc_loop (tocsinref26_Within_l17 a0 a1) (fun s7 t I' L' => I ≤ I' ∧ L = L' ∧ Knows 32 [(1, .slice A1_0 a1.length n1_0), (10, .slice A0_0 a0.length n0_0), (11, .int .i64 (a0.length : Int)), (12, .int .i64 s7)] t) (by kernel_rfl) ?_ hl6 ⟨(Imm.refl _), rfl, hK⟩
    rintro s7 o8 t I12 L' hb9 ⟨hI10, rfl, hK11⟩
    unfold tocsinref26_Within_l17 at hb9
    refine gk_at hK11 ?_
    refine gk_seq (by kernel_rfl) ?_
    refine gk_region (by kernel_rfl) ?_
    refine gl_pure 1 [1, 10, 11, 12, 13] (K' := [(1, .slice A1_0 a1.length n1_0), (10, .slice A0_0 a0.length n0_0), (11, .int .i64 (a0.length : Int)), (12, .int .i64 s7), (13, .bool (decide (s7 < (a0.length : Int))))]) (by kernel_rfl) ?_
    refine gl_atE (by kernel_rfl) ?_
    refine ge_seq ?_
    refine gk_seq (by kernel_rfl) ?_
    refine gk_cond (b := (decide (s7 < (a0.length : Int)))) (by kernel_rfl) (by kernel_rfl) (fun hc19 => ?_) (fun hc19 => ?_)
    · have hb9 := cond_t hc19 hb9
      refine gk_skip (by kernel_rfl) ?_
      refine ge_seq ?_
      refine gk_seq (by kernel_rfl) ?_
      refine gk_block (by kernel_rfl) ?_
      refine gk_seq (by kernel_rfl) ?_
      refine gk_region (by kernel_rfl) ?_
      obtain ⟨x20, hx21, hb9⟩ := bind_some hb9
      obtain ⟨p22, cs23, hR24, hA25, ha26⟩ := RepS.ixAt hx21 (hf0_0.mono hI10)
      have hi27 := ix_some hx21
      obtain ⟨A28, n29, rfl, hf30⟩ := sl_open hR24
      refine gl_indexAddrF (c := n0_0) (T' := 22) (e := 39) (xs := (.tmp 10)) (xi := (.tmp 12)) (kd := .i64) ha26 hi27.1 hi27.2.1 (by kernel_rfl) (by kernel_rfl) (by kernel_rfl) (by kernel_rfl) (by kernel_rfl) ?_
      refine gl_load (T' := 39) (xp := (.tmp 14)) (p := p22) (c := .slice A28 x20.length n29) (n := 1) (by kernel_rfl) (by kernel_rfl) (by kernel_rfl) (by kernel_rfl) hA25 ?_
      refine gl_pure 1 [1, 6, 10, 11, 12] (K' := [(1, .slice A1_0 a1.length n1_0), (6, .slice A28 x20.length n29), (10, .slice A0_0 a0.length n0_0), (11, .int .i64 (a0.length : Int)), (12, .int .i64 s7)]) (by kernel_rfl) ?_
      refine gl_atE (by kernel_rfl) ?_
      refine ge_seq ?_
      refine gk_seq (by kernel_rfl) ?_
      refine gk_region (by kernel_rfl) ?_
      refine gl_pure 1 [1, 6, 7, 10, 11, 12] (K' := [(1, .slice A1_0 a1.length n1_0), (6, .slice A28 x20.length n29), (7, .bool false), (10, .slice A0_0 a0.length n0_0), (11, .int .i64 (a0.length : Int)), (12, .int .i64 s7)]) (by kernel_rfl) ?_
      refine gl_atE (by kernel_rfl) ?_
      refine ge_seq ?_
      refine gk_seq (by kernel_rfl) ?_
      refine gk_seq (by kernel_rfl) ?_
      refine gk_region (by kernel_rfl) ?_
      refine gl_pure 3 [1, 6, 7, 10, 11, 12, 16, 17, 18] (K' := [(1, .slice A1_0 a1.length n1_0), (6, .slice A28 x20.length n29), (7, .bool false), (10, .slice A0_0 a0.length n0_0), (11, .int .i64 (a0.length : Int)), (12, .int .i64 s7), (16, .slice A1_0 a1.length n1_0), (17, .int .i64 (a1.length : Int)), (18, .int .i64 0)]) (by kernel_rfl) ?_
      refine gl_atE (by kernel_rfl) ?_
      refine ge_seq ?_
      obtain ⟨r35, hl36, hb9⟩ := bind_some hb9
      refine gk_join (fun t I' L' => I12 ≤ I' ∧ L = L' ∧ Knows 32 [(1, .slice A1_0 a1.length n1_0), (7, .bool r35), (10, .slice A0_0 a0.length n0_0), (11, .int .i64 (a0.length : Int)), (12, .int .i64 s7)] t) ?_ ?_
      · refine gk_block (by kernel_rfl) ?_
        refine gk_pick [1, 6, 7, 10, 11, 12, 16, 17, 18] (K' := [(1, .slice A1_0 a1.length n1_0), (6, .slice A28 x20.length n29), (7, .bool false), (10, .slice A0_0 a0.length n0_0), (11, .int .i64 (a0.length : Int)), (12, .int .i64 s7), (16, .slice A1_0 a1.length n1_0), (17, .int .i64 (a1.length : Int)), (18, .int .i64 0)]) (by kernel_rfl) ?_
        intro t hK
        refine gc_loop (tocsinref26_Within_l46 a1 x20) (fun s37 t I' L' => I12 ≤ I' ∧ L = L' ∧ Knows 32 [(1, .slice A1_0 a1.length n1_0), (6, .slice A28 x20.length n29), (7, .bool s37.1), (10, .slice A0_0 a0.length n0_0), (11, .int .i64 (a0.length : Int)), (12, .int .i64 s7), (16, .slice A1_0 a1.length n1_0), (17, .int .i64 (a1.length : Int)), (18, .int .i64 s37.2)] t) (by kernel_rfl) ?_ hl36 ⟨(Imm.refl _), rfl, hK⟩
        rintro s37 o38 t I42 L' hb39 ⟨hI40, rfl, hK41⟩
        unfold tocsinref26_Within_l46 at hb39
        refine gk_at hK41 ?_
        refine gk_seq (by kernel_rfl) ?_
        refine gk_region (by kernel_rfl) ?_
        refine gl_pure 1 [1, 6, 7, 10, 11, 12, 16, 17, 18, 19] (K' := [(1, .slice A1_0 a1.length n1_0), (6, .slice A28 x20.length n29), (7, .bool s37.1), (10, .slice A0_0 a0.length n0_0), (11, .int .i64 (a0.length : Int)), (12, .int .i64 s7), (16, .slice A1_0 a1.length n1_0), (17, .int .i64 (a1.length : Int)), (18, .int .i64 s37.2), (19, .bool (decide (s37.2 < (a1.length : Int))))]) (by kernel_rfl) ?_
        refine gl_atE (by kernel_rfl) ?_
        refine ge_seq ?_
        refine gk_seq (by kernel_rfl) ?_
        refine gk_cond (b := (decide (s37.2 < (a1.length : Int)))) (by kernel_rfl) (by kernel_rfl) (fun hc48 => ?_) (fun hc48 => ?_)
        · have hb39 := cond_t hc48 hb39
          refine gk_skip (by kernel_rfl) ?_
          refine ge_seq ?_
          refine gk_seq (by kernel_rfl) ?_
          refine gk_block (by kernel_rfl) ?_
          refine gk_seq (by kernel_rfl) ?_
          refine gk_region (by kernel_rfl) ?_
          obtain ⟨x49, hx50, hb39⟩ := bind_some hb39
          obtain ⟨p51, cs52, hR53, hA54, ha55⟩ := RepS.ixAt hx50 (hf1_0.mono (Imm.trans hI10 hI40))
          have hi56 := ix_some hx50
          obtain ⟨A57, n58, rfl, hf59⟩ := sl_open hR53
          refine gl_indexAddrF (c := n1_0) (T' := 22) (e := 39) (xs := (.tmp 16)) (xi := (.tmp 18)) (kd := .i64) ha55 hi56.1 hi56.2.1 (by kernel_rfl) (by kernel_rfl) (by kernel_rfl) (by kernel_rfl) (by kernel_rfl) ?_
          refine gl_load (T' := 39) (xp := (.tmp 20)) (p := p51) (c := .slice A57 x49.length n58) (n := 1) (by kernel_rfl) (by kernel_rfl) (by kernel_rfl) (by kernel_rfl) hA54 ?_
          refine gl_pure 1 [1, 6, 7, 9, 10, 11, 12, 16, 17, 18] (K' := [(1, .slice A1_0 a1.length n1_0), (6, .slice A28 x20.length n29), (7, .bool s37.1), (9, .slice A57 x49.length n58), (10, .slice A0_0 a0.length n0_0), (11, .int .i64 (a0.length : Int)), (12, .int .i64 s7), (16, .slice A1_0 a1.length n1_0), (17, .int .i64 (a1.length : Int)), (18, .int .i64 s37.2)]) (by kernel_rfl) ?_
          refine gl_atE (by kernel_rfl) ?_
          refine ge_seq ?_
          obtain ⟨j60, hj61, hb39⟩ := bind_some hb39
          refine gk_join (fun t I' L' => I42 ≤ I' ∧ L = L' ∧ Knows 32 [(1, .slice A1_0 a1.length n1_0), (6, .slice A28 x20.length n29), (7, .bool j60), (10, .slice A0_0 a0.length n0_0), (11, .int .i64 (a0.length : Int)), (12, .int .i64 s7), (16, .slice A1_0 a1.length n1_0), (17, .int .i64 (a1.length : Int)), (18, .int .i64 s37.2)] t) ?_ ?_
          · refine gk_region (by kernel_rfl) ?_
            refine gl_pure 2 [1, 6, 9, 10, 11, 12, 16, 17, 18, 23] (K' := [(1, .slice A1_0 a1.length n1_0), (6, .slice A28 x20.length n29), (9, .slice A57 x49.length n58), (10, .slice A0_0 a0.length n0_0), (11, .int .i64 (a0.length : Int)), (12, .int .i64 s7), (16, .slice A1_0 a1.length n1_0), (17, .int .i64 (a1.length : Int)), (18, .int .i64 s37.2), (23, .bool s37.1)]) (by kernel_rfl) ?_
            refine gl_case 23 (b := s37.1) (by kernel_rfl) (fun hc65 => ?_) (fun hc65 => ?_)
            · have hj61 := cond_t hc65 hj61
              refine gl_pure 5 [1, 6, 7, 10, 11, 12, 16, 17, 18] (K' := [(1, .slice A1_0 a1.length n1_0), (6, .slice A28 x20.length n29), (7, .bool true), (10, .slice A0_0 a0.length n0_0), (11, .int .i64 (a0.length : Int)), (12, .int .i64 s7), (16, .slice A1_0 a1.length n1_0), (17, .int .i64 (a1.length : Int)), (18, .int .i64 s37.2)]) (by kernel_rfl) ?_
              refine gl_atE (by kernel_rfl) ?_
              obtain rfl := some_inj hj61
              exact ge_mid fun t ht => ⟨(Imm.refl _), rfl, ht.pick (l := [1, 6, 7, 10, 11, 12, 16, 17, 18]) (by kernel_rfl)⟩
            · have hj61 := cond_f hc65 hj61
              refine gl_pure 2 [1, 6, 10, 11, 12, 16, 17, 18, 23, 24, 25] (K' := [(1, .slice A1_0 a1.length n1_0), (6, .slice A28 x20.length n29), (10, .slice A0_0 a0.length n0_0), (11, .int .i64 (a0.length : Int)), (12, .int .i64 s7), (16, .slice A1_0 a1.length n1_0), (17, .int .i64 (a1.length : Int)), (18, .int .i64 s37.2), (23, .bool false), (24, .slice A28 x20.length n29), (25, .slice A57 x49.length n58)]) (by kernel_rfl) ?_
              obtain ⟨y66, hx67, hj61⟩ := bind_some hj61
              refine gl_callQ (by kernel_rfl) (tocsinref04_Same_walk (r := y66) (hf30.mono hI40) hf59 hx67 _) ?_
              refine gl_pure 2 [1, 6, 7, 10, 11, 12, 16, 17, 18] (K' := [(1, .slice A1_0 a1.length n1_0), (6, .slice A28 x20.length n29), (7, .bool y66), (10, .slice A0_0 a0.length n0_0), (11, .int .i64 (a0.length : Int)), (12, .int .i64 s7), (16, .slice A1_0 a1.length n1_0), (17, .int .i64 (a1.length : Int)), (18, .int .i64 s37.2)]) (by kernel_rfl) ?_
              refine gl_atE (by kernel_rfl) ?_
              obtain rfl := some_inj hj61
              exact ge_mid fun t ht => ⟨(Imm.refl _), rfl, ht.pick (l := [1, 6, 7, 10, 11, 12, 16, 17, 18]) (by kernel_rfl)⟩
          · rintro t I64 L' ⟨hI62, rfl, hK63⟩
            refine ge_at hK63 ?_
            refine ge_block_normal ?_
            refine ge_seq ?_
            refine gk_region (by kernel_rfl) ?_
            refine gl_pure 2 [1, 6, 7, 10, 11, 12, 16, 17, 18] (K' := [(1, .slice A1_0 a1.length n1_0), (6, .slice A28 x20.length n29), (7, .bool j60), (10, .slice A0_0 a0.length n0_0), (11, .int .i64 (a0.length : Int)), (12, .int .i64 s7), (16, .slice A1_0 a1.length n1_0), (17, .int .i64 (a1.length : Int)), (18, .int .i64 (IntKind.wrap .i64 (s37.2 + 1)))]) (by kernel_rfl) ?_
            refine gl_atE (by kernel_rfl) ?_
            obtain rfl := some_inj hb39
            exact ge_round fun t ht => ⟨(Imm.trans hI40 hI62), rfl, ht.pick (l := [1, 6, 7, 10, 11, 12, 16, 17, 18]) (by kernel_rfl)⟩
        · have hb39 := cond_f hc48 hb39
          refine gk_exit (by kernel_rfl) ?_
          refine ge_seq_exit ?_
          obtain rfl := some_inj hb39
          refine ge_round_out (fun hrr => ?_) (by intro h; cases h)
          obtain rfl := hrr
          refine ge_block_hit (by kernel_rfl) ?_
          exact ge_mid fun t ht => ⟨hI40, rfl, ht.pick (l := [1, 7, 10, 11, 12]) (by kernel_rfl)⟩
      · rintro t I45 L' ⟨hI43, rfl, hK44⟩
        refine ge_at hK44 ?_
        refine ge_seq ?_
        refine gk_seq (by kernel_rfl) ?_
        refine gk_region (by kernel_rfl) ?_
        refine gl_pure 2 [1, 10, 11, 12, 30] (K' := [(1, .slice A1_0 a1.length n1_0), (10, .slice A0_0 a0.length n0_0), (11, .int .i64 (a0.length : Int)), (12, .int .i64 s7), (30, .bool (!r35))]) (by kernel_rfl) ?_
        refine gl_atE (by kernel_rfl) ?_
        refine ge_seq ?_
        refine gk_cond (b := (!r35)) (by kernel_rfl) (by kernel_rfl) (fun hc68 => ?_) (fun hc68 => ?_)
        · have hb9 := cond_t hc68 hb9
          refine gk_seq (by kernel_rfl) ?_
          refine gk_region (by kernel_rfl) ?_
          refine gl_pure 1 [4] (K' := [(4, .bool false)]) (by kernel_rfl) ?_
          refine gl_atE (by kernel_rfl) ?_
          refine ge_seq ?_
          refine gk_ret (by kernel_rfl) ?_
          refine ge_block_ret ?_
          refine ge_seq_ret ?_
          obtain rfl := some_inj hb9
          refine ge_round_out (fun hrr => ?_) (by intro h; cases h)
          obtain rfl := hrr
          refine ge_block_ret ?_
          refine ge_seq_ret ?_
          refine ge_seq_ret ?_
          obtain rfl := some_inj hr
          exact ge_result trivial (ResOk.tmp (by kernel_rfl) ResOk.nil) (Imm.trans hI10 hI43) ⟨rfl, rfl⟩
        · have hb9 := cond_f hc68 hb9
          refine gk_skip (by kernel_rfl) ?_
          refine ge_block_normal ?_
          refine ge_seq ?_
          refine gk_region (by kernel_rfl) ?_
          refine gl_pure 2 [1, 10, 11, 12] (K' := [(1, .slice A1_0 a1.length n1_0), (10, .slice A0_0 a0.length n0_0), (11, .int .i64 (a0.length : Int)), (12, .int .i64 (IntKind.wrap .i64 (s7 + 1)))]) (by kernel_rfl) ?_
          refine gl_atE (by kernel_rfl) ?_
          obtain rfl := some_inj hb9
          exact ge_round fun t ht => ⟨(Imm.trans hI10 hI43), rfl, ht.pick (l := [1, 10, 11, 12]) (by kernel_rfl)⟩
    · have hb9 := cond_f hc19 hb9
      refine gk_exit (by kernel_rfl) ?_
      refine ge_seq_exit ?_
      obtain rfl := some_inj hb9
      refine ge_round_out (fun hrr => ?_) (by intro h; cases h)
      obtain rfl := hrr
      refine ge_block_hit (by kernel_rfl) ?_
      exact ge_mid fun t ht => ⟨_, rfl, hI10, rfl, ht.pick (l := []) (by kernel_rfl)⟩
  · rintro t I16 L' ⟨r13, rfl, hI14, rfl, hK15⟩
    refine ge_at hK15 ?_
    refine ge_seq ?_
    refine gk_seq (by kernel_rfl) ?_
    refine gk_region (by kernel_rfl) ?_
    refine gl_pure 1 [4] (K' := [(4, .bool true)]) (by kernel_rfl) ?_
    refine gl_atE (by kernel_rfl) ?_
    refine ge_seq ?_
    refine gk_ret (by kernel_rfl) ?_
    obtain rfl := some_inj hr
    exact ge_result trivial (ResOk.tmp (by kernel_rfl) ResOk.nil) hI14 ⟨rfl, rfl⟩
/-! 7 tocsinref26_Needs  -/
noncomputable def tocsinref26_Needs (a0 : S23) (a1 : Bool) (a2 : Int) (a3 : Int) (a4 : List (List S50)) (a5 : List (List S50)) : Option (Bool × Int) :=
  bif (((!(tocsinref26_time a2)) || (decide (a3 < 1))) || (decide (a3 > 1099511627776))) then
  (some (false, 1))
  else
  (Option.bind (Option.bind (tocsinref26_sets a4) fun (y15 : Bool) =>
      bif (!y15) then
      (some true)
      else
      (Option.bind (tocsinref26_sets a5) fun (y18 : Bool) =>
        some (!y18))) fun (j10 : Bool) =>
    bif j10 then
    (some (false, 41))
    else
    (bif (!a1) then
      (some ((decide ((a4.length : Int) > 0)), 0))
      else
      (Option.bind (tocsinref26_Right a0) fun (y22 : Int) =>
        bif (y22 != 0) then
        (some (false, y22))
        else
        (Option.bind (tocsinref26_Within a4 a0.f3) fun (y25 : Bool) =>
          bif (!y25) then
          (some (true, 0))
          else
          (bif ((a4.length : Int) == 0) then
            (some ((decide ((a0.f3.length : Int) > 0)), 0))
            else
            (Option.bind (tocsinref26_Within a5 a0.f4) fun (y29 : Bool) =>
              bif (!y29) then
              (some (true, 0))
              else
              (some ((decide (a0.f2 ≤ (IntKind.wrap .i64 (a2 - a3)))), 0))))))))
theorem tocsinref26_Needs_walk {a0 : S23} {A0_3 : Option Addr} {n0_3 : Nat} {A0_4 : Option Addr} {n0_4 : Nat} {a1 : Bool} {a2 : Int} {a3 : Int} {a4 : List (List S50)} {A4_0 : Option Addr} {n4_0 : Nat} {a5 : List (List S50)} {A5_0 : Option Addr} {n5_0 : Nat} {I : Imm} {r : Bool × Int}  (hf0_3 : RepS (Kd.sl kS50) I A0_3 n0_3 a0.f3) (hf0_4 : RepS (Kd.sl kS50) I A0_4 n0_4 a0.f4)  (hf4_0 : RepS (Kd.sl kS50) I A4_0 n4_0 a4)  (hf5_0 : RepS (Kd.sl kS50) I A5_0 n5_0 a5) (hr : tocsinref26_Needs a0 a1 a2 a3 a4 a5 = some r) (L : Own) :
    CallsTo Tryd.prog 7 #[.agg #[.string a0.f0, .string a0.f1, .int .i64 a0.f2, .slice A0_3 a0.f3.length n0_3, .slice A0_4 a0.f4.length n0_4], .bool a1, .int .i64 a2, .int .i64 a3, .slice A4_0 a4.length n4_0, .slice A5_0 a5.length n5_0] I L (fun v I' L' => v = .tuple #[.bool r.1, .int .i64 r.2] ∧ L = L') := by
  unfold tocsinref26_Needs at hr
  refine callsTo_body (N := 70) Tryd.func7 (by kernel_rfl) (by kernel_rfl) (by kernel_rfl) ?_
  refine gk_pick [0, 1, 2, 3, 4, 5] (K' := [(0, .agg #[.string a0.f0, .string a0.f1, .int .i64 a0.f2, .slice A0_3 a0.f3.length n0_3, .slice A0_4 a0.f4.length n0_4]), (1, .bool a1), (2, .int .i64 a2), (3, .int .i64 a3), (4, .slice A4_0 a4.length n4_0), (5, .slice A5_0 a5.length n5_0)]) (by kernel_rfl) ?_
  refine gk_seq (by kernel_rfl) ?_
  refine gk_region (by kernel_rfl) ?_
  refine gl_box (T' := 24) (x := (.tmp 0)) (v := .agg #[.string a0.f0, .string a0.f1, .int .i64 a0.f2, .slice A0_3 a0.f3.length n0_3, .slice A0_4 a0.f4.length n0_4]) (cs := #[.string a0.f0, .string a0.f1, .int .i64 a0.f2, .slice A0_3 a0.f3.length n0_3, .slice A0_4 a0.f4.length n0_4]) (by kernel_rfl) (by kernel_rfl) (by kernel_rfl) (by kernel_rfl) (fun g1 => ?_)
  refine gl_pure 2 [1, 2, 3, 4, 5, 6] (K' := [(1, .bool a1), (2, .int .i64 a2), (3, .int .i64 a3), (4, .slice A4_0 a4.length n4_0), (5, .slice A5_0 a5.length n5_0), (6, .pointer (some ⟨g1, 0, none⟩))]) (by kernel_rfl) ?_
  refine gl_atE (by kernel_rfl) ?_
  refine ge_seq ?_
  refine gk_seq (by kernel_rfl) ?_
  refine gk_seq (by kernel_rfl) ?_
  obtain ⟨b4, hb5⟩ : ∃ z, z = (((!(tocsinref26_time a2)) || (decide (a3 < 1))) || (decide (a3 > 1099511627776))) := ⟨_, rfl⟩
  refine gk_join (fun t I' L' => I ≤ I' ∧ (g1, .cells #[.string a0.f0, .string a0.f1, .int .i64 a0.f2, .slice A0_3 a0.f3.length n0_3, .slice A0_4 a0.f4.length n0_4] 24) :: L = L' ∧ Knows 70 [(1, .bool a1), (2, .int .i64 a2), (3, .int .i64 a3), (4, .slice A4_0 a4.length n4_0), (5, .slice A5_0 a5.length n5_0), (6, .pointer (some ⟨g1, 0, none⟩)), (25, .bool b4)] t) ?_ ?_
  · refine gk_region (by kernel_rfl) ?_
    refine gl_pure 1 [1, 2, 3, 4, 5, 6, 15] (K' := [(1, .bool a1), (2, .int .i64 a2), (3, .int .i64 a3), (4, .slice A4_0 a4.length n4_0), (5, .slice A5_0 a5.length n5_0), (6, .pointer (some ⟨g1, 0, none⟩)), (15, .int .i64 a2)]) (by kernel_rfl) ?_
    refine gl_callQ (by kernel_rfl) (tocsinref26_time_walk (r := (tocsinref26_time a2))  rfl _) ?_
    refine gl_pure 2 [1, 2, 3, 4, 5, 6, 18] (K' := [(1, .bool a1), (2, .int .i64 a2), (3, .int .i64 a3), (4, .slice A4_0 a4.length n4_0), (5, .slice A5_0 a5.length n5_0), (6, .pointer (some ⟨g1, 0, none⟩)), (18, .bool (!(tocsinref26_time a2)))]) (by kernel_rfl) ?_
    refine gl_case 18 (b := (!(tocsinref26_time a2))) (by kernel_rfl) (fun hc7 => ?_) (fun hc7 => ?_)
    · refine gl_pure 7 [1, 2, 3, 4, 5, 6, 25] (K' := [(1, .bool a1), (2, .int .i64 a2), (3, .int .i64 a3), (4, .slice A4_0 a4.length n4_0), (5, .slice A5_0 a5.length n5_0), (6, .pointer (some ⟨g1, 0, none⟩)), (25, .bool true)]) (by kernel_rfl) ?_
      refine gl_atE (by kernel_rfl) ?_
      exact ge_mid fun t ht => ⟨(Imm.refl _), rfl, by rw [(show b4 = true from hb5.trans (by first | (rw [hc7]; done) | (rw [hc7]; rfl) | (simp [hc7]; done) | (simp only [hc7]; rfl) | (simp at *; omega)))]; exact ht.pick (l := [1, 2, 3, 4, 5, 6, 25]) (by kernel_rfl)⟩
    · refine gl_pure 4 [1, 2, 3, 4, 5, 6, 22] (K' := [(1, .bool a1), (2, .int .i64 a2), (3, .int .i64 a3), (4, .slice A4_0 a4.length n4_0), (5, .slice A5_0 a5.length n5_0), (6, .pointer (some ⟨g1, 0, none⟩)), (22, .bool (decide (a3 < 1)))]) (by kernel_rfl) ?_
      refine gl_case 22 (b := (decide (a3 < 1))) (by kernel_rfl) (fun hc8 => ?_) (fun hc8 => ?_)
      · refine gl_pure 3 [1, 2, 3, 4, 5, 6, 25] (K' := [(1, .bool a1), (2, .int .i64 a2), (3, .int .i64 a3), (4, .slice A4_0 a4.length n4_0), (5, .slice A5_0 a5.length n5_0), (6, .pointer (some ⟨g1, 0, none⟩)), (25, .bool true)]) (by kernel_rfl) ?_
        refine gl_atE (by kernel_rfl) ?_
        exact ge_mid fun t ht => ⟨(Imm.refl _), rfl, by rw [(show b4 = true from hb5.trans (by first | (rw [hc7, hc8]; done) | (rw [hc7, hc8]; rfl) | (simp [hc7, hc8]; done) | (simp only [hc7, hc8]; rfl) | (simp at *; omega)))]; exact ht.pick (l := [1, 2, 3, 4, 5, 6, 25]) (by kernel_rfl)⟩
      · refine gl_pure 3 [1, 2, 3, 4, 5, 6, 25] (K' := [(1, .bool a1), (2, .int .i64 a2), (3, .int .i64 a3), (4, .slice A4_0 a4.length n4_0), (5, .slice A5_0 a5.length n5_0), (6, .pointer (some ⟨g1, 0, none⟩)), (25, .bool (decide (a3 > 1099511627776)))]) (by kernel_rfl) ?_
        refine gl_atE (by kernel_rfl) ?_
        exact ge_mid fun t ht => ⟨(Imm.refl _), rfl, by rw [(show b4 = (decide (a3 > 1099511627776)) from hb5.trans (by first | (rw [hc7, hc8]; done) | (rw [hc7, hc8]; rfl) | (simp [hc7, hc8]; done) | (simp only [hc7, hc8]; rfl) | (simp at *; omega)))]; exact ht.pick (l := [1, 2, 3, 4, 5, 6, 25]) (by kernel_rfl)⟩
  · rintro t I6 L' ⟨hI2, rfl, hK3⟩
    subst hb5
    refine ge_at hK3 ?_
    refine ge_seq ?_
    refine gk_cond (b := (((!(tocsinref26_time a2)) || (decide (a3 < 1))) || (decide (a3 > 1099511627776)))) (by kernel_rfl) (by kernel_rfl) (fun hc9 => ?_) (fun hc9 => ?_)
    · have hr := cond_t hc9 hr
      refine gk_seq (by kernel_rfl) ?_
      refine gk_region (by kernel_rfl) ?_
      refine gl_pure 2 [12, 13] (K' := [(12, .bool false), (13, .int .i64 1)]) (by kernel_rfl) ?_
      refine gl_atE (by kernel_rfl) ?_
      refine ge_seq ?_
      refine gk_reord (D := L) (Reord.skip (Reord.refl _)) ?_
      refine gk_ret (by kernel_rfl) ?_
      refine ge_seq_ret ?_
      obtain rfl := some_inj hr
      exact ge_result trivial (ResOk.tmp (by kernel_rfl) (ResOk.tmp (by kernel_rfl) ResOk.nil)) hI2 ⟨rfl, rfl⟩
    · have hr := cond_f hc9 hr
      refine gk_skip (by kernel_rfl) ?_
      refine ge_seq ?_
      refine gk_seq (by kernel_rfl) ?_
      refine gk_seq (by kernel_rfl) ?_
      obtain ⟨j10, hj11, hr⟩ := bind_some hr
      refine gk_join (fun t I' L' => I6 ≤ I' ∧ (g1, .cells #[.string a0.f0, .string a0.f1, .int .i64 a0.f2, .slice A0_3 a0.f3.length n0_3, .slice A0_4 a0.f4.length n0_4] 24) :: L = L' ∧ Knows 70 [(1, .bool a1), (2, .int .i64 a2), (3, .int .i64 a3), (4, .slice A4_0 a4.length n4_0), (5, .slice A5_0 a5.length n5_0), (6, .pointer (some ⟨g1, 0, none⟩)), (33, .bool j10)] t) ?_ ?_
      · refine gk_region (by kernel_rfl) ?_
        refine gl_pure 1 [1, 2, 3, 4, 5, 6, 26] (K' := [(1, .bool a1), (2, .int .i64 a2), (3, .int .i64 a3), (4, .slice A4_0 a4.length n4_0), (5, .slice A5_0 a5.length n5_0), (6, .pointer (some ⟨g1, 0, none⟩)), (26, .slice A4_0 a4.length n4_0)]) (by kernel_rfl) ?_
        obtain ⟨y15, hx16, hj11⟩ := bind_some hj11
        refine gl_callQ (by kernel_rfl) (tocsinref26_sets_walk (r := y15) (hf4_0.mono hI2) hx16 _) ?_
        refine gl_pure 2 [1, 2, 3, 4, 5, 6, 29] (K' := [(1, .bool a1), (2, .int .i64 a2), (3, .int .i64 a3), (4, .slice A4_0 a4.length n4_0), (5, .slice A5_0 a5.length n5_0), (6, .pointer (some ⟨g1, 0, none⟩)), (29, .bool (!y15))]) (by kernel_rfl) ?_
        refine gl_case 29 (b := (!y15)) (by kernel_rfl) (fun hc17 => ?_) (fun hc17 => ?_)
        · have hj11 := cond_t hc17 hj11
          refine gl_pure 4 [1, 2, 3, 4, 5, 6, 33] (K' := [(1, .bool a1), (2, .int .i64 a2), (3, .int .i64 a3), (4, .slice A4_0 a4.length n4_0), (5, .slice A5_0 a5.length n5_0), (6, .pointer (some ⟨g1, 0, none⟩)), (33, .bool true)]) (by kernel_rfl) ?_
          refine gl_atE (by kernel_rfl) ?_
          obtain rfl := some_inj hj11
          exact ge_mid fun t ht => ⟨(Imm.refl _), rfl, ht.pick (l := [1, 2, 3, 4, 5, 6, 33]) (by kernel_rfl)⟩
        · have hj11 := cond_f hc17 hj11
          refine gl_pure 1 [1, 2, 3, 4, 5, 6, 29, 30] (K' := [(1, .bool a1), (2, .int .i64 a2), (3, .int .i64 a3), (4, .slice A4_0 a4.length n4_0), (5, .slice A5_0 a5.length n5_0), (6, .pointer (some ⟨g1, 0, none⟩)), (29, .bool false), (30, .slice A5_0 a5.length n5_0)]) (by kernel_rfl) ?_
          obtain ⟨y18, hx19, hj11⟩ := bind_some hj11
          refine gl_callQ (by kernel_rfl) (tocsinref26_sets_walk (r := y18) (hf5_0.mono hI2) hx19 _) ?_
          refine gl_pure 2 [1, 2, 3, 4, 5, 6, 33] (K' := [(1, .bool a1), (2, .int .i64 a2), (3, .int .i64 a3), (4, .slice A4_0 a4.length n4_0), (5, .slice A5_0 a5.length n5_0), (6, .pointer (some ⟨g1, 0, none⟩)), (33, .bool (!y18))]) (by kernel_rfl) ?_
          refine gl_atE (by kernel_rfl) ?_
          obtain rfl := some_inj hj11
          exact ge_mid fun t ht => ⟨(Imm.refl _), rfl, ht.pick (l := [1, 2, 3, 4, 5, 6, 33]) (by kernel_rfl)⟩
      · rintro t I14 L' ⟨hI12, rfl, hK13⟩
        refine ge_at hK13 ?_
        refine ge_seq ?_
        refine gk_cond (b := j10) (by kernel_rfl) (by kernel_rfl) (fun hc20 => ?_) (fun hc20 => ?_)
        · have hr := cond_t hc20 hr
          refine gk_seq (by kernel_rfl) ?_
          refine gk_region (by kernel_rfl) ?_
          refine gl_pure 2 [12, 13] (K' := [(12, .bool false), (13, .int .i64 41)]) (by kernel_rfl) ?_
          refine gl_atE (by kernel_rfl) ?_
          refine ge_seq ?_
          refine gk_reord (D := L) (Reord.skip (Reord.refl _)) ?_
          refine gk_ret (by kernel_rfl) ?_
          refine ge_seq_ret ?_
          obtain rfl := some_inj hr
          exact ge_result trivial (ResOk.tmp (by kernel_rfl) (ResOk.tmp (by kernel_rfl) ResOk.nil)) (Imm.trans hI2 hI12) ⟨rfl, rfl⟩
        · have hr := cond_f hc20 hr
          refine gk_skip (by kernel_rfl) ?_
          refine ge_seq ?_
          refine gk_seq (by kernel_rfl) ?_
          refine gk_seq (by kernel_rfl) ?_
          refine gk_region (by kernel_rfl) ?_
          refine gl_pure 2 [2, 3, 4, 5, 6, 35] (K' := [(2, .int .i64 a2), (3, .int .i64 a3), (4, .slice A4_0 a4.length n4_0), (5, .slice A5_0 a5.length n5_0), (6, .pointer (some ⟨g1, 0, none⟩)), (35, .bool (!a1))]) (by kernel_rfl) ?_
          refine gl_atE (by kernel_rfl) ?_
          refine ge_seq ?_
          refine gk_cond (b := (!a1)) (by kernel_rfl) (by kernel_rfl) (fun hc21 => ?_) (fun hc21 => ?_)
          · have hr := cond_t hc21 hr
            refine gk_seq (by kernel_rfl) ?_
            refine gk_region (by kernel_rfl) ?_
            refine gl_pure 5 [12, 13] (K' := [(12, .bool (decide ((a4.length : Int) > 0))), (13, .int .i64 0)]) (by kernel_rfl) ?_
            refine gl_atE (by kernel_rfl) ?_
            refine ge_seq ?_
            refine gk_reord (D := L) (Reord.skip (Reord.refl _)) ?_
            refine gk_ret (by kernel_rfl) ?_
            refine ge_seq_ret ?_
            obtain rfl := some_inj hr
            exact ge_result trivial (ResOk.tmp (by kernel_rfl) (ResOk.tmp (by kernel_rfl) ResOk.nil)) (Imm.trans hI2 hI12) ⟨rfl, rfl⟩
          · have hr := cond_f hc21 hr
            refine gk_skip (by kernel_rfl) ?_
            refine ge_seq ?_
            refine gk_seq (by kernel_rfl) ?_
            refine gk_seq (by kernel_rfl) ?_
            refine gk_region (by kernel_rfl) ?_
            refine gl_loadB (T' := 24) (xp := (.tmp 6)) (v := .agg #[.string a0.f0, .string a0.f1, .int .i64 a0.f2, .slice A0_3 a0.f3.length n0_3, .slice A0_4 a0.f4.length n0_4]) (g := g1) (off := 0) (cs := #[.string a0.f0, .string a0.f1, .int .i64 a0.f2, .slice A0_3 a0.f3.length n0_3, .slice A0_4 a0.f4.length n0_4]) (e := 24) (fz := (0, 0)) (by kernel_rfl) (by kernel_rfl) (by kernel_rfl) List.mem_cons_self (by kernel_rfl) ?_
            obtain ⟨y22, hx23, hr⟩ := bind_some hr
            refine gl_callQ (by kernel_rfl) (tocsinref26_Right_walk (r := y22) (hf0_3.mono (Imm.trans hI2 hI12)) (hf0_4.mono (Imm.trans hI2 hI12)) hx23 _) ?_
            refine gl_pure 1 [2, 3, 4, 5, 6, 14] (K' := [(2, .int .i64 a2), (3, .int .i64 a3), (4, .slice A4_0 a4.length n4_0), (5, .slice A5_0 a5.length n5_0), (6, .pointer (some ⟨g1, 0, none⟩)), (14, .int .i64 y22)]) (by kernel_rfl) ?_
            refine gl_atE (by kernel_rfl) ?_
            refine ge_seq ?_
            refine gk_seq (by kernel_rfl) ?_
            refine gk_region (by kernel_rfl) ?_
            refine gl_pure 2 [2, 3, 4, 5, 6, 14, 42] (K' := [(2, .int .i64 a2), (3, .int .i64 a3), (4, .slice A4_0 a4.length n4_0), (5, .slice A5_0 a5.length n5_0), (6, .pointer (some ⟨g1, 0, none⟩)), (14, .int .i64 y22), (42, .bool (y22 != 0))]) (by kernel_rfl) ?_
            refine gl_atE (by kernel_rfl) ?_
            refine ge_seq ?_
            refine gk_cond (b := (y22 != 0)) (by kernel_rfl) (by kernel_rfl) (fun hc24 => ?_) (fun hc24 => ?_)
            · have hr := cond_t hc24 hr
              refine gk_seq (by kernel_rfl) ?_
              refine gk_region (by kernel_rfl) ?_
              refine gl_pure 3 [12, 13] (K' := [(12, .bool false), (13, .int .i64 y22)]) (by kernel_rfl) ?_
              refine gl_atE (by kernel_rfl) ?_
              refine ge_seq ?_
              refine gk_reord (D := L) (Reord.skip (Reord.refl _)) ?_
              refine gk_ret (by kernel_rfl) ?_
              refine ge_seq_ret ?_
              obtain rfl := some_inj hr
              exact ge_result trivial (ResOk.tmp (by kernel_rfl) (ResOk.tmp (by kernel_rfl) ResOk.nil)) (Imm.trans hI2 hI12) ⟨rfl, rfl⟩
            · have hr := cond_f hc24 hr
              refine gk_skip (by kernel_rfl) ?_
              refine ge_seq ?_
              refine gk_seq (by kernel_rfl) ?_
              refine gk_block (by kernel_rfl) ?_
              refine gk_seq (by kernel_rfl) ?_
              refine gk_region (by kernel_rfl) ?_
              refine gl_pure 2 [2, 3, 4, 5, 6, 45, 46] (K' := [(2, .int .i64 a2), (3, .int .i64 a3), (4, .slice A4_0 a4.length n4_0), (5, .slice A5_0 a5.length n5_0), (6, .pointer (some ⟨g1, 0, none⟩)), (45, .slice A4_0 a4.length n4_0), (46, .pointer (some ⟨g1, 3, none⟩))]) (by kernel_rfl) ?_
              refine gl_loadB (T' := 22) (xp := (.tmp 46)) (v := .slice A0_3 a0.f3.length n0_3) (g := g1) (off := 3) (cs := #[.string a0.f0, .string a0.f1, .int .i64 a0.f2, .slice A0_3 a0.f3.length n0_3, .slice A0_4 a0.f4.length n0_4]) (e := 24) (fz := (0, 0)) (by kernel_rfl) (by kernel_rfl) (by kernel_rfl) List.mem_cons_self (by kernel_rfl) ?_
              obtain ⟨y25, hx26, hr⟩ := bind_some hr
              refine gl_callQ (by kernel_rfl) (tocsinref26_Within_walk (r := y25) (hf4_0.mono (Imm.trans hI2 hI12)) (hf0_3.mono (Imm.trans hI2 hI12)) hx26 _) ?_
              refine gl_pure 2 [2, 3, 4, 5, 6, 44] (K' := [(2, .int .i64 a2), (3, .int .i64 a3), (4, .slice A4_0 a4.length n4_0), (5, .slice A5_0 a5.length n5_0), (6, .pointer (some ⟨g1, 0, none⟩)), (44, .bool (!y25))]) (by kernel_rfl) ?_
              refine gl_atE (by kernel_rfl) ?_
              refine ge_seq ?_
              refine gk_cond (b := (!y25)) (by kernel_rfl) (by kernel_rfl) (fun hc27 => ?_) (fun hc27 => ?_)
              · have hr := cond_t hc27 hr
                refine gk_seq (by kernel_rfl) ?_
                refine gk_region (by kernel_rfl) ?_
                refine gl_pure 2 [12, 13] (K' := [(12, .bool true), (13, .int .i64 0)]) (by kernel_rfl) ?_
                refine gl_atE (by kernel_rfl) ?_
                refine ge_seq ?_
                refine gk_reord (D := L) (Reord.skip (Reord.refl _)) ?_
                refine gk_ret (by kernel_rfl) ?_
                refine ge_block_ret ?_
                refine ge_seq_ret ?_
                obtain rfl := some_inj hr
                exact ge_result trivial (ResOk.tmp (by kernel_rfl) (ResOk.tmp (by kernel_rfl) ResOk.nil)) (Imm.trans hI2 hI12) ⟨rfl, rfl⟩
              · have hr := cond_f hc27 hr
                refine gk_seq (by kernel_rfl) ?_
                refine gk_region (by kernel_rfl) ?_
                refine gl_pure 4 [2, 3, 5, 6, 50] (K' := [(2, .int .i64 a2), (3, .int .i64 a3), (5, .slice A5_0 a5.length n5_0), (6, .pointer (some ⟨g1, 0, none⟩)), (50, .bool ((a4.length : Int) == 0))]) (by kernel_rfl) ?_
                refine gl_atE (by kernel_rfl) ?_
                refine ge_seq ?_
                refine gk_cond (b := ((a4.length : Int) == 0)) (by kernel_rfl) (by kernel_rfl) (fun hc28 => ?_) (fun hc28 => ?_)
                · have hr := cond_t hc28 hr
                  refine gk_seq (by kernel_rfl) ?_
                  refine gk_region (by kernel_rfl) ?_
                  refine gl_pure 1 [54] (K' := [(54, .pointer (some ⟨g1, 3, none⟩))]) (by kernel_rfl) ?_
                  refine gl_loadB (T' := 22) (xp := (.tmp 54)) (v := .slice A0_3 a0.f3.length n0_3) (g := g1) (off := 3) (cs := #[.string a0.f0, .string a0.f1, .int .i64 a0.f2, .slice A0_3 a0.f3.length n0_3, .slice A0_4 a0.f4.length n0_4]) (e := 24) (fz := (0, 0)) (by kernel_rfl) (by kernel_rfl) (by kernel_rfl) List.mem_cons_self (by kernel_rfl) ?_
                  refine gl_pure 4 [12, 13] (K' := [(12, .bool (decide ((a0.f3.length : Int) > 0))), (13, .int .i64 0)]) (by kernel_rfl) ?_
                  refine gl_atE (by kernel_rfl) ?_
                  refine ge_seq ?_
                  refine gk_reord (D := L) (Reord.skip (Reord.refl _)) ?_
                  refine gk_ret (by kernel_rfl) ?_
                  refine ge_block_ret ?_
                  refine ge_seq_ret ?_
                  obtain rfl := some_inj hr
                  exact ge_result trivial (ResOk.tmp (by kernel_rfl) (ResOk.tmp (by kernel_rfl) ResOk.nil)) (Imm.trans hI2 hI12) ⟨rfl, rfl⟩
                · have hr := cond_f hc28 hr
                  refine gk_seq (by kernel_rfl) ?_
                  refine gk_region (by kernel_rfl) ?_
                  refine gl_pure 2 [2, 3, 6, 59, 60] (K' := [(2, .int .i64 a2), (3, .int .i64 a3), (6, .pointer (some ⟨g1, 0, none⟩)), (59, .slice A5_0 a5.length n5_0), (60, .pointer (some ⟨g1, 4, none⟩))]) (by kernel_rfl) ?_
                  refine gl_loadB (T' := 22) (xp := (.tmp 60)) (v := .slice A0_4 a0.f4.length n0_4) (g := g1) (off := 4) (cs := #[.string a0.f0, .string a0.f1, .int .i64 a0.f2, .slice A0_3 a0.f3.length n0_3, .slice A0_4 a0.f4.length n0_4]) (e := 24) (fz := (0, 0)) (by kernel_rfl) (by kernel_rfl) (by kernel_rfl) List.mem_cons_self (by kernel_rfl) ?_
                  obtain ⟨y29, hx30, hr⟩ := bind_some hr
                  refine gl_callQ (by kernel_rfl) (tocsinref26_Within_walk (r := y29) (hf5_0.mono (Imm.trans hI2 hI12)) (hf0_4.mono (Imm.trans hI2 hI12)) hx30 _) ?_
                  refine gl_pure 2 [2, 3, 6, 58] (K' := [(2, .int .i64 a2), (3, .int .i64 a3), (6, .pointer (some ⟨g1, 0, none⟩)), (58, .bool (!y29))]) (by kernel_rfl) ?_
                  refine gl_atE (by kernel_rfl) ?_
                  refine ge_seq ?_
                  refine gk_cond (b := (!y29)) (by kernel_rfl) (by kernel_rfl) (fun hc31 => ?_) (fun hc31 => ?_)
                  · have hr := cond_t hc31 hr
                    refine gk_seq (by kernel_rfl) ?_
                    refine gk_region (by kernel_rfl) ?_
                    refine gl_pure 2 [12, 13] (K' := [(12, .bool true), (13, .int .i64 0)]) (by kernel_rfl) ?_
                    refine gl_atE (by kernel_rfl) ?_
                    refine ge_seq ?_
                    refine gk_reord (D := L) (Reord.skip (Reord.refl _)) ?_
                    refine gk_ret (by kernel_rfl) ?_
                    refine ge_block_ret ?_
                    refine ge_seq_ret ?_
                    obtain rfl := some_inj hr
                    exact ge_result trivial (ResOk.tmp (by kernel_rfl) (ResOk.tmp (by kernel_rfl) ResOk.nil)) (Imm.trans hI2 hI12) ⟨rfl, rfl⟩
                  · have hr := cond_f hc31 hr
                    refine gk_skip (by kernel_rfl) ?_
                    refine ge_block_normal ?_
                    refine ge_seq ?_
                    refine gk_seq (by kernel_rfl) ?_
                    refine gk_region (by kernel_rfl) ?_
                    refine gl_pure 1 [2, 3, 64] (K' := [(2, .int .i64 a2), (3, .int .i64 a3), (64, .pointer (some ⟨g1, 2, none⟩))]) (by kernel_rfl) ?_
                    refine gl_loadB (T' := 2) (xp := (.tmp 64)) (v := .int .i64 a0.f2) (g := g1) (off := 2) (cs := #[.string a0.f0, .string a0.f1, .int .i64 a0.f2, .slice A0_3 a0.f3.length n0_3, .slice A0_4 a0.f4.length n0_4]) (e := 24) (fz := (0, 0)) (by kernel_rfl) (by kernel_rfl) (by kernel_rfl) List.mem_cons_self (by kernel_rfl) ?_
                    refine gl_pure 6 [12, 13] (K' := [(12, .bool (decide (a0.f2 ≤ (IntKind.wrap .i64 (a2 - a3))))), (13, .int .i64 0)]) (by kernel_rfl) ?_
                    refine gl_atE (by kernel_rfl) ?_
                    refine ge_seq ?_
                    refine gk_reord (D := L) (Reord.skip (Reord.refl _)) ?_
                    refine gk_ret (by kernel_rfl) ?_
                    obtain rfl := some_inj hr
                    exact ge_result trivial (ResOk.tmp (by kernel_rfl) (ResOk.tmp (by kernel_rfl) ResOk.nil)) (Imm.trans hI2 hI12) ⟨rfl, rfl⟩
/-! 45 slices_Clone  -/
noncomputable def slices_Clone (a0 : List S50) : Option (List S50) :=
  Option.bind (app ([] : List S50) a0) fun (zs3 : List S50) =>
  some zs3
theorem slices_Clone_walk {a0 : List S50} {A0_0 : Option Addr} {n0_0 : Nat} {I : Imm} {r : (List S50)}  (hf0_0 : RepS kS50 I A0_0 n0_0 a0) (hr : slices_Clone a0 = some r) (L : Own) :
    CallsTo Tryd.prog 45 #[.slice A0_0 a0.length n0_0] I L (fun v I' L' => ∃ A0 c0 C0, OwnS kS50 51 I' A0 c0 r C0 ∧ v = .slice A0 r.length c0 ∧ C0 ++ L = L') := by
  unfold slices_Clone at hr
  refine callsTo_body (N := 8) Tryd.func45 (by kernel_rfl) (by kernel_rfl) (by kernel_rfl) ?_
  refine gk_pick [0] (K' := [(0, .slice A0_0 a0.length n0_0)]) (by kernel_rfl) ?_
  refine gk_seq (by kernel_rfl) ?_
  refine gk_region (by kernel_rfl) ?_
  refine gl_pure 1 [0] (K' := [(0, .slice A0_0 a0.length n0_0)]) (by kernel_rfl) ?_
  refine gl_atE (by kernel_rfl) ?_
  refine ge_seq ?_
  refine gk_seq (by kernel_rfl) ?_
  refine gk_seq (by kernel_rfl) ?_
  refine gk_region (by kernel_rfl) ?_
  refine gl_pure 1 [0, 3] (K' := [(0, .slice A0_0 a0.length n0_0), (3, .slice A0_0 a0.length n0_0)]) (by kernel_rfl) ?_
  refine gl_eqNil (A := A0_0) (len := a0.length) (c := n0_0) (a := 0) (b := 0) (t := 39) (t' := 39) (x := (.tmp 3)) (y := (.const (.slice none 0 0))) (by kernel_rfl) (by kernel_rfl) (by kernel_rfl) (by kernel_rfl) (by kernel_rfl) ?_
  refine gl_atE (by kernel_rfl) ?_
  refine ge_seq ?_
  refine gk_cond (b := A0_0.isNone) (by kernel_rfl) (by kernel_rfl) (fun hc1 => ?_) (fun hc1 => ?_)
  · have hr := clone_nil hr (RepS.isNil hf0_0 hc1)
    refine gk_seq (by kernel_rfl) ?_
    refine gk_region (by kernel_rfl) ?_
    refine gl_pure 1 [2] (K' := [(2, .slice none 0 0)]) (by kernel_rfl) ?_
    refine gl_atE (by kernel_rfl) ?_
    refine ge_seq ?_
    refine gk_ret (by kernel_rfl) ?_
    refine ge_seq_ret ?_
    obtain rfl := some_inj hr
    exact ge_result trivial (ResOk.tmp (by kernel_rfl) ResOk.nil) (Imm.refl _) ⟨none, 0, [], OwnS.nil _ _ _ _, rfl, rfl⟩
  · refine gk_skip (by kernel_rfl) ?_
    refine ge_seq ?_
    refine gk_seq (by kernel_rfl) ?_
    refine gk_region (by kernel_rfl) ?_
    refine gl_buildSlice0 (T' := 39) (e := 51) (n := 2) (by kernel_rfl) (by kernel_rfl) (by kernel_rfl) (fun g2 => ?_)
    refine gl_reord (D := [(g2, .cells #[] 51)] ++ L) (Reord.refl _) ?_
    refine gl_pure 1 [5, 6] (K' := [(5, .slice (some ⟨g2, 0, none⟩) ([] : List S50).length 0), (6, .slice A0_0 a0.length n0_0)]) (by kernel_rfl) ?_
    obtain ⟨zs3, hz4, hr⟩ := bind_some hr
    refine gl_append (xv := .slice A0_0 a0.length n0_0) (d := kS50) (t := 39) (tx := 39) (e := 51) (s := (.tmp 5)) (x := (.tmp 6)) (xs := ([] : List S50)) (fun X => X ++ L) hz4 (by kernel_rfl) (by kernel_rfl) (by kernel_rfl) (by kernel_rfl) (by kernel_rfl) (by kernel_rfl) (fun X => (Upd.head _ X _)) (OwnS.empty _ _ _ _) (SrcOk.slice (c := n0_0) (e := 51) (n := 2) (RepS.rd hf0_0 _) (by kernel_rfl)) (fun A5 n6 C7 hO8 => ?_)
    refine gl_pure 1 [2] (K' := [(2, .slice A5 zs3.length n6)]) (by kernel_rfl) ?_
    refine gl_atE (by kernel_rfl) ?_
    refine ge_seq ?_
    refine gk_ret (by kernel_rfl) ?_
    obtain rfl := some_inj hr
    exact ge_result trivial (ResOk.tmp (by kernel_rfl) ResOk.nil) (Imm.refl _) ⟨A5, n6, C7, hO8, rfl, rfl⟩
/-! 29 nflog_sets  -/
noncomputable def nflog_sets_l28 (a0 : List (List S50)) : ((List (List S50)) × Int) → Option (((List (List S50)) × Int) ⊕ ((List (List S50)))) := fun s11 =>
  bif (decide (s11.2 < (a0.length : Int))) then
  (Option.bind (ix a0 s11.2) fun (x31 : List S50) =>
    Option.bind (slices_Clone x31) fun (y42 : (List S50)) =>
    Option.bind (app s11.1 [y42]) fun (zs59 : List (List S50)) =>
    some (Sum.inl (zs59, (IntKind.wrap .i64 (s11.2 + 1)))))
  else
  (some (Sum.inr s11.1))
noncomputable def nflog_sets (a0 : List (List S50)) : Option (List (List S50)) :=
  Option.bind (loopO (nflog_sets_l28 a0) ([], 0)) fun (r9 : (List (List S50))) =>
  some r9
theorem nflog_sets_walk {a0 : List (List S50)} {A0_0 : Option Addr} {n0_0 : Nat} {I : Imm} {r : (List (List S50))}  (hf0_0 : RepS (Kd.sl kS50) I A0_0 n0_0 a0) (hr : nflog_sets a0 = some r) (L : Own) :
    CallsTo Tryd.prog 29 #[.slice A0_0 a0.length n0_0] I L (fun v I' L' => ∃ A0 c0 C0, OwnS (Kd.sl kS50) 39 I' A0 c0 r C0 ∧ v = .slice A0 r.length c0 ∧ C0 ++ L = L') := by
  unfold nflog_sets at hr
  refine callsTo_body (N := 19) Tryd.func29 (by kernel_rfl) (by kernel_rfl) (by kernel_rfl) ?_
  refine gk_pick [0] (K' := [(0, .slice A0_0 a0.length n0_0)]) (by kernel_rfl) ?_
  refine gk_seq (by kernel_rfl) ?_
  refine gk_region (by kernel_rfl) ?_
  refine gl_pure 1 [0] (K' := [(0, .slice A0_0 a0.length n0_0)]) (by kernel_rfl) ?_
  refine gl_atE (by kernel_rfl) ?_
  refine ge_seq ?_
  refine gk_seq (by kernel_rfl) ?_
  refine gk_region (by kernel_rfl) ?_
  refine gl_pure 1 [0, 3] (K' := [(0, .slice A0_0 a0.length n0_0), (3, .slice none 0 0)]) (by kernel_rfl) ?_
  refine gl_atE (by kernel_rfl) ?_
  refine ge_seq ?_
  refine gk_seq (by kernel_rfl) ?_
  refine gk_seq (by kernel_rfl) ?_
  refine gk_region (by kernel_rfl) ?_
  refine gl_pure 3 [3, 6, 7, 8] (K' := [(3, .slice none 0 0), (6, .slice A0_0 a0.length n0_0), (7, .int .i64 (a0.length : Int)), (8, .int .i64 0)]) (by kernel_rfl) ?_
  refine gl_atE (by kernel_rfl) ?_
  refine ge_seq ?_
  obtain ⟨r9, hl10, hr⟩ := bind_some hr
  refine gk_join (fun t I' L' => ∃ A22 n23 C24, OwnS (Kd.sl kS50) 39 I' A22 n23 r9 C24 ∧ I ≤ I' ∧ C24 ++ L = L' ∧ Knows 19 [(3, .slice A22 r9.length n23)] t) ?_ ?_
  · refine gk_block (by kernel_rfl) ?_
    refine gk_pick [3, 6, 7, 8] (K' := [(3, .slice none 0 0), (6, .slice A0_0 a0.length n0_0), (7, .int .i64 (a0.length : Int)), (8, .int .i64 0)]) (by kernel_rfl) ?_
    intro t hK
    refine gc_loop (nflog_sets_l28 a0) (fun s11 t I' L' => ∃ A15 n16 C17, OwnS (Kd.sl kS50) 39 I' A15 n16 s11.1 C17 ∧ I ≤ I' ∧ C17 ++ L = L' ∧ Knows 19 [(3, .slice A15 s11.1.length n16), (6, .slice A0_0 a0.length n0_0), (7, .int .i64 (a0.length : Int)), (8, .int .i64 s11.2)] t) (by kernel_rfl) ?_ hl10 ⟨none, 0, [], OwnS.nil _ _ _ _, (Imm.refl _), rfl, hK⟩
    rintro s11 o12 t I20 L' hb13 ⟨A15, n16, C17, hO18, hI14, rfl, hK19⟩
    unfold nflog_sets_l28 at hb13
    refine gk_at hK19 ?_
    refine gk_seq (by kernel_rfl) ?_
    refine gk_region (by kernel_rfl) ?_
    refine gl_pure 1 [3, 6, 7, 8, 9] (K' := [(3, .slice A15 s11.1.length n16), (6, .slice A0_0 a0.length n0_0), (7, .int .i64 (a0.length : Int)), (8, .int .i64 s11.2), (9, .bool (decide (s11.2 < (a0.length : Int))))]) (by kernel_rfl) ?_
    refine gl_atE (by kernel_rfl) ?_
    refine ge_seq ?_
    refine gk_seq (by kernel_rfl) ?_
    refine gk_cond (b := (decide (s11.2 < (a0.length : Int)))) (by kernel_rfl) (by kernel_rfl) (fun hc30 => ?_) (fun hc30 => ?_)
    · have hb13 := cond_t hc30 hb13
      refine gk_skip (by kernel_rfl) ?_
      refine ge_seq ?_
      refine gk_seq (by kernel_rfl) ?_
      refine gk_block (by kernel_rfl) ?_
      refine gk_seq (by kernel_rfl) ?_
      refine gk_region (by kernel_rfl) ?_
      obtain ⟨x31, hx32, hb13⟩ := bind_some hb13
      obtain ⟨p33, cs34, hR35, hA36, ha37⟩ := RepS.ixAt hx32 (hf0_0.mono hI14)
      have hi38 := ix_some hx32
      obtain ⟨A39, n40, rfl, hf41⟩ := sl_open hR35
      refine gl_indexAddrF (c := n0_0) (T' := 22) (e := 39) (xs := (.tmp 6)) (xi := (.tmp 8)) (kd := .i64) ha37 hi38.1 hi38.2.1 (by kernel_rfl) (by kernel_rfl) (by kernel_rfl) (by kernel_rfl) (by kernel_rfl) ?_
      refine gl_load (T' := 39) (xp := (.tmp 10)) (p := p33) (c := .slice A39 x31.length n40) (n := 1) (by kernel_rfl) (by kernel_rfl) (by kernel_rfl) (by kernel_rfl) hA36 ?_
      refine gl_pure 1 [3, 5, 6, 7, 8] (K' := [(3, .slice A15 s11.1.length n16), (5, .slice A39 x31.length n40), (6, .slice A0_0 a0.length n0_0), (7, .int .i64 (a0.length : Int)), (8, .int .i64 s11.2)]) (by kernel_rfl) ?_
      refine gl_atE (by kernel_rfl) ?_
      refine ge_seq ?_
      refine gk_region (by kernel_rfl) ?_
      refine gl_pure 2 [6, 7, 8, 12, 13] (K' := [(6, .slice A0_0 a0.length n0_0), (7, .int .i64 (a0.length : Int)), (8, .int .i64 s11.2), (12, .slice A15 s11.1.length n16), (13, .slice A39 x31.length n40)]) (by kernel_rfl) ?_
      obtain ⟨y42, hx43, hb13⟩ := bind_some hb13
      refine gl_call (by kernel_rfl) (slices_Clone_walk (r := y42) hf41 hx43 _) ?_
      rintro v I44 L45 hI46 ⟨A47, c48, C49, hO50, rfl, rfl⟩
      refine gl_rest (Tk.step (Upd.rmC _ _) (Tk.nil _)) (fun J51 hJ52 hC53 => ?_)
      have hf54 := (OwnS.rest hO50 hJ52 hC53.left)
      refine gl_buildSlice (T' := 22) (e := 39) (n := 1) (len := 1) (parts := #[(0, (.tmp 14))]) (l := [(0, .slice A47 y42.length c48)]) (cs := #[.slice A47 y42.length c48]) (by kernel_rfl) (by kernel_rfl) (by kernel_rfl) (by kernel_rfl) (by kernel_rfl) (fun g55 => ?_)
      have hO56 : OwnS (Kd.sl kS50) 39 J51 (some ⟨g55, 0, none⟩) 1 [y42] [(g55, .cells #[.slice A47 y42.length c48] 39)] := OwnS.lit (row_cons (l := [.slice A47 y42.length c48]) ⟨_, _, rfl, hf54⟩ (row_nil _ _)) rfl rfl rfl
      refine gl_reord (D := [(g55, .cells #[.slice A47 y42.length c48] 39)] ++ (C17 ++ L)) (Reord.refl _) ?_
      obtain ⟨zs59, hz60, hb13⟩ := bind_some hb13
      refine gl_append (xv := .slice (some ⟨g55, 0, none⟩) [y42].length 1) (d := (Kd.sl kS50)) (t := 22) (tx := 22) (e := 39) (s := (.tmp 12)) (x := (.tmp 15)) (xs := s11.1) (fun X => [(g55, .cells #[.slice A47 y42.length c48] 39)] ++ (X ++ L)) hz60 (by kernel_rfl) (by kernel_rfl) (by kernel_rfl) (by kernel_rfl) (by kernel_rfl) (by kernel_rfl) (fun X => (Upd.app _ (Upd.head _ X _))) (hO18.mono (Imm.trans hI46 hJ52)) (SrcOk.slice (c := 1) (e := 39) (n := 1) (OwnS.rd hO56 (Upd.selfC _ _)) (by kernel_rfl)) (fun A61 n62 C63 hO64 => ?_)
      refine gl_pure 1 [3, 6, 7, 8] (K' := [(3, .slice A61 zs59.length n62), (6, .slice A0_0 a0.length n0_0), (7, .int .i64 (a0.length : Int)), (8, .int .i64 s11.2)]) (by kernel_rfl) ?_
      refine gl_atE (by kernel_rfl) ?_
      refine ge_block_normal ?_
      refine ge_seq ?_
      refine gk_region (by kernel_rfl) ?_
      refine gl_pure 2 [3, 6, 7, 8] (K' := [(3, .slice A61 zs59.length n62), (6, .slice A0_0 a0.length n0_0), (7, .int .i64 (a0.length : Int)), (8, .int .i64 (IntKind.wrap .i64 (s11.2 + 1)))]) (by kernel_rfl) ?_
      refine gl_reord (D := C63 ++ L) (Reord.step (Upd.app _ (Upd.rmC _ _)) (Reord.skipC (Reord.refl _))) ?_
      refine gl_atE (by kernel_rfl) ?_
      obtain rfl := some_inj hb13
      exact ge_round fun t ht => ⟨A61, n62, C63, hO64, (Imm.trans (Imm.trans hI14 hI46) hJ52), rfl, ht.pick (l := [3, 6, 7, 8]) (by kernel_rfl)⟩
    · have hb13 := cond_f hc30 hb13
      refine gk_exit (by kernel_rfl) ?_
      refine ge_seq_exit ?_
      obtain rfl := some_inj hb13
      refine ge_round_out (fun hrr => ?_) (by intro h; cases h)
      obtain rfl := hrr
      refine ge_block_hit (by kernel_rfl) ?_
      exact ge_mid fun t ht => ⟨A15, n16, C17, hO18, hI14, rfl, ht.pick (l := [3]) (by kernel_rfl)⟩
  · rintro t I27 L' ⟨A22, n23, C24, hO25, hI21, rfl, hK26⟩
    refine ge_at hK26 ?_
    refine ge_seq ?_
    refine gk_seq (by kernel_rfl) ?_
    refine gk_region (by kernel_rfl) ?_
    refine gl_pure 2 [2] (K' := [(2, .slice A22 r9.length n23)]) (by kernel_rfl) ?_
    refine gl_atE (by kernel_rfl) ?_
    refine ge_seq ?_
    refine gk_ret (by kernel_rfl) ?_
    obtain rfl := some_inj hr
    exact ge_result trivial (ResOk.tmp (by kernel_rfl) ResOk.nil) hI21 ⟨A22, n23, C24, hO25, rfl, rfl⟩
theorem nflog_sets_walkF {J0 : Imm} {a0 : List (List S50)} {A0_0 : Option Addr} {n0_0 : Nat} {I : Imm} {r : (List (List S50))}  (hf0_0 : RepS (Kd.sl kS50) I A0_0 n0_0 a0) (hJ0 : J0 ≤ I) (hr : nflog_sets a0 = some r) (L : Own) :
    CallsTo Tryd.prog 29 #[.slice A0_0 a0.length n0_0] I L (fun v I' L' => ∃ A0 c0 C0, OwnS (Kd.fr J0 kS50 51) 39 I' A0 c0 r C0 ∧ v = .slice A0 r.length c0 ∧ C0 ++ L = L') := by
  unfold nflog_sets at hr
  refine callsTo_body (N := 19) Tryd.func29 (by kernel_rfl) (by kernel_rfl) (by kernel_rfl) ?_
  refine gk_pick [0] (K' := [(0, .slice A0_0 a0.length n0_0)]) (by kernel_rfl) ?_
  refine gk_seq (by kernel_rfl) ?_
  refine gk_region (by kernel_rfl) ?_
  refine gl_pure 1 [0] (K' := [(0, .slice A0_0 a0.length n0_0)]) (by kernel_rfl) ?_
  refine gl_atE (by kernel_rfl) ?_
  refine ge_seq ?_
  refine gk_seq (by kernel_rfl) ?_
  refine gk_region (by kernel_rfl) ?_
  refine gl_pure 1 [0, 3] (K' := [(0, .slice A0_0 a0.length n0_0), (3, .slice none 0 0)]) (by kernel_rfl) ?_
  refine gl_atE (by kernel_rfl) ?_
  refine ge_seq ?_
  refine gk_seq (by kernel_rfl) ?_
  refine gk_seq (by kernel_rfl) ?_
  refine gk_region (by kernel_rfl) ?_
  refine gl_pure 3 [3, 6, 7, 8] (K' := [(3, .slice none 0 0), (6, .slice A0_0 a0.length n0_0), (7, .int .i64 (a0.length : Int)), (8, .int .i64 0)]) (by kernel_rfl) ?_
  refine gl_atE (by kernel_rfl) ?_
  refine ge_seq ?_
  obtain ⟨r9, hl10, hr⟩ := bind_some hr
  refine gk_join (fun t I' L' => ∃ A22 n23 C24, OwnS (Kd.fr J0 kS50 51) 39 I' A22 n23 r9 C24 ∧ I ≤ I' ∧ C24 ++ L = L' ∧ Knows 19 [(3, .slice A22 r9.length n23)] t) ?_ ?_
  · refine gk_block (by kernel_rfl) ?_
    refine gk_pick [3, 6, 7, 8] (K' := [(3, .slice none 0 0), (6, .slice A0_0 a0.length n0_0), (7, .int .i64 (a0.length : Int)), (8, .int .i64 0)]) (by kernel_rfl) ?_
    intro t hK
    refine gc_loop (nflog_sets_l28 a0) (fun s11 t I' L' => ∃ A15 n16 C17, OwnS (Kd.fr J0 kS50 51) 39 I' A15 n16 s11.1 C17 ∧ I ≤ I' ∧ C17 ++ L = L' ∧ Knows 19 [(3, .slice A15 s11.1.length n16), (6, .slice A0_0 a0.length n0_0), (7, .int .i64 (a0.length : Int)), (8, .int .i64 s11.2)] t) (by kernel_rfl) ?_ hl10 ⟨none, 0, [], OwnS.nil _ _ _ _, (Imm.refl _), rfl, hK⟩
    rintro s11 o12 t I20 L' hb13 ⟨A15, n16, C17, hO18, hI14, rfl, hK19⟩
    unfold nflog_sets_l28 at hb13
    refine gk_at hK19 ?_
    refine gk_seq (by kernel_rfl) ?_
    refine gk_region (by kernel_rfl) ?_
    refine gl_pure 1 [3, 6, 7, 8, 9] (K' := [(3, .slice A15 s11.1.length n16), (6, .slice A0_0 a0.length n0_0), (7, .int .i64 (a0.length : Int)), (8, .int .i64 s11.2), (9, .bool (decide (s11.2 < (a0.length : Int))))]) (by kernel_rfl) ?_
    refine gl_atE (by kernel_rfl) ?_
    refine ge_seq ?_
    refine gk_seq (by kernel_rfl) ?_
    refine gk_cond (b := (decide (s11.2 < (a0.length : Int)))) (by kernel_rfl) (by kernel_rfl) (fun hc30 => ?_) (fun hc30 => ?_)
    · have hb13 := cond_t hc30 hb13
      refine gk_skip (by kernel_rfl) ?_
      refine ge_seq ?_
      refine gk_seq (by kernel_rfl) ?_
      refine gk_block (by kernel_rfl) ?_
      refine gk_seq (by kernel_rfl) ?_
      refine gk_region (by kernel_rfl) ?_
      obtain ⟨x31, hx32, hb13⟩ := bind_some hb13
      obtain ⟨p33, cs34, hR35, hA36, ha37⟩ := RepS.ixAt hx32 (hf0_0.mono hI14)
      have hi38 := ix_some hx32
      obtain ⟨A39, n40, rfl, hf41⟩ := sl_open hR35
      refine gl_indexAddrF (c := n0_0) (T' := 22) (e := 39) (xs := (.tmp 6)) (xi := (.tmp 8)) (kd := .i64) ha37 hi38.1 hi38.2.1 (by kernel_rfl) (by kernel_rfl) (by kernel_rfl) (by kernel_rfl) (by kernel_rfl) ?_
      refine gl_load (T' := 39) (xp := (.tmp 10)) (p := p33) (c := .slice A39 x31.length n40) (n := 1) (by kernel_rfl) (by kernel_rfl) (by kernel_rfl) (by kernel_rfl) hA36 ?_
      refine gl_pure 1 [3, 5, 6, 7, 8] (K' := [(3, .slice A15 s11.1.length n16), (5, .slice A39 x31.length n40), (6, .slice A0_0 a0.length n0_0), (7, .int .i64 (a0.length : Int)), (8, .int .i64 s11.2)]) (by kernel_rfl) ?_
      refine gl_atE (by kernel_rfl) ?_
      refine ge_seq ?_
      refine gk_region (by kernel_rfl) ?_
      refine gl_pure 2 [6, 7, 8, 12, 13] (K' := [(6, .slice A0_0 a0.length n0_0), (7, .int .i64 (a0.length : Int)), (8, .int .i64 s11.2), (12, .slice A15 s11.1.length n16), (13, .slice A39 x31.length n40)]) (by kernel_rfl) ?_
      obtain ⟨y42, hx43, hb13⟩ := bind_some hb13
      refine gl_call (by kernel_rfl) (slices_Clone_walk (r := y42) hf41 hx43 _) ?_
      rintro v I44 L45 hI46 ⟨A47, c48, C49, hO50, rfl, rfl⟩
      refine gl_restF (Tk.step (Upd.rmC _ _) (Tk.nil _)) (fun J51 hJ52 hC53 hNN => ?_)
      have hf54 := (OwnS.rest hO50 hJ52 hC53.left)
      refine gl_buildSlice (T' := 22) (e := 39) (n := 1) (len := 1) (parts := #[(0, (.tmp 14))]) (l := [(0, .slice A47 y42.length c48)]) (cs := #[.slice A47 y42.length c48]) (by kernel_rfl) (by kernel_rfl) (by kernel_rfl) (by kernel_rfl) (by kernel_rfl) (fun g55 => ?_)
      have hO56 : OwnS (Kd.fr J0 kS50 51) 39 J51 (some ⟨g55, 0, none⟩) 1 [y42] [(g55, .cells #[.slice A47 y42.length c48] 39)] := OwnS.lit (row_cons (l := [.slice A47 y42.length c48]) (fr_rest hO50 hJ52 hC53.left (fun p hp => hNN J0 (Imm.trans hJ0 (Imm.trans hI14 hI46)) p (List.mem_append_left _ hp))) (row_nil _ _)) rfl rfl rfl
      refine gl_reord (D := [(g55, .cells #[.slice A47 y42.length c48] 39)] ++ (C17 ++ L)) (Reord.refl _) ?_
      obtain ⟨zs59, hz60, hb13⟩ := bind_some hb13
      refine gl_append (xv := .slice (some ⟨g55, 0, none⟩) [y42].length 1) (d := (Kd.fr J0 kS50 51)) (t := 22) (tx := 22) (e := 39) (s := (.tmp 12)) (x := (.tmp 15)) (xs := s11.1) (fun X => [(g55, .cells #[.slice A47 y42.length c48] 39)] ++ (X ++ L)) hz60 (by kernel_rfl) (by kernel_rfl) (by kernel_rfl) (by kernel_rfl) (by kernel_rfl) (by kernel_rfl) (fun X => (Upd.app _ (Upd.head _ X _))) (hO18.mono (Imm.trans hI46 hJ52)) (SrcOk.slice (c := 1) (e := 39) (n := 1) (OwnS.rd hO56 (Upd.selfC _ _)) (by kernel_rfl)) (fun A61 n62 C63 hO64 => ?_)
      refine gl_pure 1 [3, 6, 7, 8] (K' := [(3, .slice A61 zs59.length n62), (6, .slice A0_0 a0.length n0_0), (7, .int .i64 (a0.length : Int)), (8, .int .i64 s11.2)]) (by kernel_rfl) ?_
      refine gl_atE (by kernel_rfl) ?_
      refine ge_block_normal ?_
      refine ge_seq ?_
      refine gk_region (by kernel_rfl) ?_
      refine gl_pure 2 [3, 6, 7, 8] (K' := [(3, .slice A61 zs59.length n62), (6, .slice A0_0 a0.length n0_0), (7, .int .i64 (a0.length : Int)), (8, .int .i64 (IntKind.wrap .i64 (s11.2 + 1)))]) (by kernel_rfl) ?_
      refine gl_reord (D := C63 ++ L) (Reord.step (Upd.app _ (Upd.rmC _ _)) (Reord.skipC (Reord.refl _))) ?_
      refine gl_atE (by kernel_rfl) ?_
      obtain rfl := some_inj hb13
      exact ge_round fun t ht => ⟨A61, n62, C63, hO64, (Imm.trans (Imm.trans hI14 hI46) hJ52), rfl, ht.pick (l := [3, 6, 7, 8]) (by kernel_rfl)⟩
    · have hb13 := cond_f hc30 hb13
      refine gk_exit (by kernel_rfl) ?_
      refine ge_seq_exit ?_
      obtain rfl := some_inj hb13
      refine ge_round_out (fun hrr => ?_) (by intro h; cases h)
      obtain rfl := hrr
      refine ge_block_hit (by kernel_rfl) ?_
      exact ge_mid fun t ht => ⟨A15, n16, C17, hO18, hI14, rfl, ht.pick (l := [3]) (by kernel_rfl)⟩
  · rintro t I27 L' ⟨A22, n23, C24, hO25, hI21, rfl, hK26⟩
    refine ge_at hK26 ?_
    refine ge_seq ?_
    refine gk_seq (by kernel_rfl) ?_
    refine gk_region (by kernel_rfl) ?_
    refine gl_pure 2 [2] (K' := [(2, .slice A22 r9.length n23)]) (by kernel_rfl) ?_
    refine gl_atE (by kernel_rfl) ?_
    refine ge_seq ?_
    refine gk_ret (by kernel_rfl) ?_
    obtain rfl := some_inj hr
    exact ge_result trivial (ResOk.tmp (by kernel_rfl) ResOk.nil) hI21 ⟨A22, n23, C24, hO25, rfl, rfl⟩
def laysSort_ren : Go.Shelf.Ren := ⟨fun x => if x = 6 then 30 else if x = 15 then 47 else if x = 14 then 46 else if x = 28 then 66 else if x = 29 then 67 else if x = 20 then 58 else if x = 21 then 59 else if x = 22 then 60 else if x = 23 then 61 else if x = 24 then 62 else if x = 25 then 63 else if x = 26 then 64 else if x = 27 then 65 else if x = 46 then 73 else if x = 47 then 74 else if x = 48 then 75 else if x = 49 then 76 else if x = 50 then 77 else if x = 57 then 87 else x, fun x => if x = 24 then 39 else if x = 25 then 45 else if x = 39 then 64 else if x = 53 then 92 else if x = 55 then 94 else if x = 46 then 85 else if x = 45 then 84 else if x = 50 then 89 else if x = 66 then 101 else if x = 70 then 105 else if x = 76 then 114 else if x = 77 then 115 else x, fun x => x⟩
theorem laysSort : Go.Proofs.SlLaysF.n6 Tryd.prog laysSort_ren := {
  mixed := by kernel_rfl,
  f6 := ⟨Tryd.f30.name, by decide, Tryd.func30.trans (congrArg some (by kernel_rfl))⟩,
  f14 := ⟨Tryd.f46.name, by decide, Tryd.func46.trans (congrArg some (by kernel_rfl))⟩,
  f15 := Tryd.func47.trans (congrArg some (by kernel_rfl)),
  f20 := ⟨Tryd.f58.name, by decide, Tryd.func58.trans (congrArg some (by kernel_rfl))⟩,
  f21 := ⟨Tryd.f59.name, by decide, Tryd.func59.trans (congrArg some (by kernel_rfl))⟩,
  f22 := ⟨Tryd.f60.name, by decide, Tryd.func60.trans (congrArg some (by kernel_rfl))⟩,
  f23 := ⟨Tryd.f61.name, by decide, Tryd.func61.trans (congrArg some (by kernel_rfl))⟩,
  f24 := ⟨Tryd.f62.name, by decide, Tryd.func62.trans (congrArg some (by kernel_rfl))⟩,
  f25 := ⟨Tryd.f63.name, by decide, Tryd.func63.trans (congrArg some (by kernel_rfl))⟩,
  f26 := ⟨Tryd.f64.name, by decide, Tryd.func64.trans (congrArg some (by kernel_rfl))⟩,
  f27 := ⟨Tryd.f65.name, by decide, Tryd.func65.trans (congrArg some (by kernel_rfl))⟩,
  f28 := Tryd.func66.trans (congrArg some (by kernel_rfl)),
  f29 := Tryd.func67.trans (congrArg some (by kernel_rfl)),
  f46 := ⟨Tryd.f73.name, by decide, Tryd.func73.trans (congrArg some (by kernel_rfl))⟩,
  f47 := Tryd.func74.trans (congrArg some (by kernel_rfl)),
  f48 := Tryd.func75.trans (congrArg some (by kernel_rfl)),
  f49 := ⟨Tryd.f76.name, by decide, Tryd.func76.trans (congrArg some (by kernel_rfl))⟩,
  f50 := ⟨Tryd.f77.name, by decide, Tryd.func77.trans (congrArg some (by kernel_rfl))⟩,
  f57 := ⟨Tryd.f87.name, by decide, Tryd.func87.trans (congrArg some (by kernel_rfl))⟩,
  t0 := Tryd.underlying0,
  a0 := Tryd.isAgg0,
  z0 := Tryd.sizeOf0,
  v0 := Tryd.zeroValue0,
  t3 := Tryd.underlying3,
  a3 := Tryd.isAgg3,
  z3 := Tryd.sizeOf3,
  v3 := Tryd.zeroValue3,
  t4 := Tryd.underlying4,
  a4 := Tryd.isAgg4,
  z4 := Tryd.sizeOf4,
  v4 := Tryd.zeroValue4,
  t5 := Tryd.underlying5,
  a5 := Tryd.isAgg5,
  z5 := Tryd.sizeOf5,
  v5 := Tryd.zeroValue5,
  t9 := Tryd.underlying9,
  a9 := Tryd.isAgg9,
  z9 := Tryd.sizeOf9,
  v9 := Tryd.zeroValue9,
  t22 := Tryd.underlying22,
  a22 := Tryd.isAgg22,
  z22 := Tryd.sizeOf22,
  v22 := Tryd.zeroValue22,
  a24 := Tryd.isAgg39,
  z24 := Tryd.sizeOf39,
  t25 := Tryd.underlying45,
  a25 := Tryd.isAgg45,
  z25 := Tryd.sizeOf45,
  v25 := Tryd.zeroValue45,
  t39 := Tryd.underlying64,
  a39 := Tryd.isAgg64,
  z39 := Tryd.sizeOf64,
  v39 := Tryd.zeroValue64,
  t45 := Tryd.underlying84,
  a45 := Tryd.isAgg84,
  z45 := Tryd.sizeOf84,
  v45 := Tryd.zeroValue84,
  t46 := Tryd.underlying85,
  a46 := Tryd.isAgg85,
  z46 := Tryd.sizeOf85,
  v46 := Tryd.zeroValue85,
  t50 := Tryd.underlying89,
  a50 := Tryd.isAgg89,
  z50 := Tryd.sizeOf89,
  v50 := Tryd.zeroValue89,
  t53 := Tryd.underlying92,
  a53 := Tryd.isAgg92,
  z53 := Tryd.sizeOf92,
  v53 := Tryd.zeroValue92,
  t55 := Tryd.underlying94,
  a55 := Tryd.isAgg94,
  z55 := Tryd.sizeOf94,
  v55 := Tryd.zeroValue94,
  t66 := Tryd.underlying101,
  a66 := Tryd.isAgg101,
  z66 := Tryd.sizeOf101,
  v66 := Tryd.zeroValue101,
  t70 := Tryd.underlying105,
  a70 := Tryd.isAgg105,
  z70 := Tryd.sizeOf105,
  v70 := Tryd.zeroValue105,
  t76 := Tryd.underlying114,
  a76 := Tryd.isAgg114,
  z76 := Tryd.sizeOf114,
  v76 := Tryd.zeroValue114,
  t77 := Tryd.underlying115,
  a77 := Tryd.isAgg115,
  z77 := Tryd.sizeOf115,
  v77 := Tryd.zeroValue115 }

theorem slices_SortFunc_30_27_walkF {J0 : Imm} {a0 : List (List S50)} {A : Option Addr} {c : Nat} {C : Own} {I : Imm} {r : List (List S50)} (hO : OwnS (Kd.fr J0 kS50 51) 39 I A c a0 C) (hr : sortO (fun l => l.length ≤ 2147483648) labels_Compare a0 = some r) (L : Own) :
    CallsTo Tryd.prog 30 #[.slice A a0.length c, .func (.func 27) #[] #[]] I (C ++ L) (fun v I' L' => ∃ C', OwnS (Kd.fr J0 kS50 51) 39 I' A c r C' ∧ v = .tuple #[] ∧ C' ++ L = L') :=
  callsTo_sortFunc laysSort rfl (fun J x v h => by obtain ⟨A', c', h1, h2⟩ := fr_open h; exact h2.max) hO hr (enters_of Tryd.func27 (by kernel_rfl) rfl)
    (fun {J x y vx vy k} hx hy hk L => by
      obtain ⟨A1, c1, h1, h2⟩ := fr_open hx
      obtain ⟨A2, c2, h3, h4⟩ := fr_open hy
      cases h1; cases h3
      exact labels_Compare_walk h2 h4 hk L) L

structure Fn47 (I : Imm) (fv : Value) (f : (List S50) → (List S50) → Option Bool) : Prop where
  out : ∀ I', I ≤ I' → ∀ (x0 : List S50) (x1 : List S50) (r : Bool), f x0 x1 = some r → ∀ A0_0 c0_0 A1_0 c1_0, RepS kS50 I' A0_0 c0_0 x0 → RepS kS50 I' A1_0 c1_0 x1 → ∀ L, CallsV Tryd.prog fv [.slice A0_0 x0.length c0_0, .slice A1_0 x1.length c1_0] I' L (fun v I' L' => v = .bool r ∧ L = L')
theorem Fn47.mono {I J : Imm} {fv : Value} {f : (List S50) → (List S50) → Option Bool} (h : Fn47 I fv f) (hI : I ≤ J) : Fn47 J fv f := ⟨fun I' hI' => h.out I' (Imm.trans hI hI')⟩
/-! 31 slices_CompactFunc_f31 ('own', 'imm') -/
noncomputable def slices_CompactFunc_f31_l76 (a1 : (List S50) → (List S50) → Option Bool) (s8 : Int) (l49 : List (List S50)) : ((List (List S50)) × Int × Int) → Option (((List (List S50)) × Int × Int) ⊕ ((List (List S50)) × Int)) := fun s61 =>
  bif (decide (s61.2.2 < (l49.length : Int))) then
  (Option.bind (ixv s61.1 s8 l49.length s61.2.2) fun (x79 : List S50) =>
    Option.bind (ixv s61.1 s8 l49.length (IntKind.wrap .i64 (s61.2.2 - 1))) fun (x90 : List S50) =>
    Option.bind (a1 x79 x90) fun (y102 : Bool) =>
    Option.bind (bif (!y102) then
      (Option.bind (ixv s61.1 s8 l49.length s61.2.2) fun (x112 : List S50) =>
        Option.bind (ix s61.1 s61.2.1) fun (x123 : List S50) =>
        some ((lset s61.1 s61.2.1 x112), (IntKind.wrap .i64 (s61.2.1 + 1))))
      else
      (some (s61.1, s61.2.1))) fun (j103 : (List (List S50)) × Int) =>
    some (Sum.inl (j103.1, j103.2, (IntKind.wrap .i64 (s61.2.2 + 1)))))
  else
  (some (Sum.inr (s61.1, s61.2.1)))
noncomputable def slices_CompactFunc_f31_l18 (a0 : List (List S50)) (a1 : (List S50) → (List S50) → Option Bool) : Int → Option ((Int) ⊕ ((Unit) ⊕ ((List (List S50))))) := fun s8 =>
  bif (decide (s8 < (a0.length : Int))) then
  (Option.bind (ix a0 s8) fun (x21 : List S50) =>
    Option.bind (ix a0 (IntKind.wrap .i64 (s8 - 1))) fun (x33 : List S50) =>
    Option.bind (a1 x21 x33) fun (y46 : Bool) =>
    bif y46 then
    (Option.bind (lx a0 s8 (a0.length : Int)) fun (l49 : List (List S50)) =>
      Option.bind (loopO (slices_CompactFunc_f31_l76 a1 s8 l49) (a0, s8, 1)) fun (r59 : (List (List S50)) × Int) =>
      Option.bind (lx r59.1 r59.2 (r59.1.length : Int)) fun (l139 : List (List S50)) =>
      Option.bind (clrv r59.1 r59.2 l139.length ([] : List S50)) fun (zs142 : List (List S50)) =>
      Option.bind (lx zs142 0 r59.2) fun (l148 : List (List S50)) =>
      some (Sum.inr (Sum.inr l148)))
    else
    (some (Sum.inl (IntKind.wrap .i64 (s8 + 1)))))
  else
  (some (Sum.inr (Sum.inl ())))
noncomputable def slices_CompactFunc_f31 (a0 : List (List S50)) (a1 : (List S50) → (List S50) → Option Bool) : Option (List (List S50)) :=
  bif (decide ((a0.length : Int) < 2)) then
  (some a0)
  else
  (Option.bind (loopO (slices_CompactFunc_f31_l18 a0 a1) 1) fun (r6 : (Unit) ⊕ ((List (List S50)))) =>
    match r6 with
    | Sum.inl r14 => some a0
    | Sum.inr v151 => some v151)
theorem slices_CompactFunc_f31_walkF {J0 : Imm} {a0 : List (List S50)} {A0 : Option Addr} {c0 : Nat} {C0 : Own} {a1 : (List S50) → (List S50) → Option Bool} {fv1 : Value} {I : Imm} {r : (List (List S50))} (hO0 : OwnS (Kd.fr J0 kS50 51) 39 I A0 c0 a0 C0) (hf1 : Fn47 I fv1 a1) (hr : slices_CompactFunc_f31 a0 a1 = some r) (L : Own) :
    CallsTo Tryd.prog 31 #[.slice A0 a0.length c0, fv1] I (C0 ++ L) (fun v I' L' => ∃ A0 c0 C0, OwnS (Kd.fr J0 kS50 51) 39 I' A0 c0 r C0 ∧ v = .slice A0 r.length c0 ∧ C0 ++ L = L') := by
  unfold slices_CompactFunc_f31 at hr
  refine callsTo_body (N := 66) Tryd.func31 (by kernel_rfl) (by kernel_rfl) (by kernel_rfl) ?_
  refine gk_pick [0, 1] (K' := [(0, .slice A0 a0.length c0), (1, fv1)]) (by kernel_rfl) ?_
  refine gk_seq (by kernel_rfl) ?_
  refine gk_region (by kernel_rfl) ?_
  refine gl_pure 1 [0, 1] (K' := [(0, .slice A0 a0.length c0), (1, fv1)]) (by kernel_rfl) ?_
  refine gl_atE (by kernel_rfl) ?_
  refine ge_seq ?_
  refine gk_seq (by kernel_rfl) ?_
  refine gk_seq (by kernel_rfl) ?_
  refine gk_region (by kernel_rfl) ?_
  refine gl_pure 3 [0, 1, 10] (K' := [(0, .slice A0 a0.length c0), (1, fv1), (10, .bool (decide ((a0.length : Int) < 2)))]) (by kernel_rfl) ?_
  refine gl_atE (by kernel_rfl) ?_
  refine ge_seq ?_
  refine gk_cond (b := (decide ((a0.length : Int) < 2))) (by kernel_rfl) (by kernel_rfl) (fun hc1 => ?_) (fun hc1 => ?_)
  · have hr := cond_t hc1 hr
    refine gk_seq (by kernel_rfl) ?_
    refine gk_region (by kernel_rfl) ?_
    refine gl_pure 2 [4] (K' := [(4, .slice A0 a0.length c0)]) (by kernel_rfl) ?_
    refine gl_atE (by kernel_rfl) ?_
    refine ge_seq ?_
    refine gk_ret (by kernel_rfl) ?_
    refine ge_seq_ret ?_
    obtain rfl := some_inj hr
    exact ge_result trivial (ResOk.tmp (by kernel_rfl) ResOk.nil) (Imm.refl _) ⟨A0, c0, C0, hO0, rfl, rfl⟩
  · have hr := cond_f hc1 hr
    refine gk_skip (by kernel_rfl) ?_
    refine ge_seq ?_
    refine gk_seq (by kernel_rfl) ?_
    refine gk_seq (by kernel_rfl) ?_
    refine gk_region (by kernel_rfl) ?_
    refine gl_pure 1 [0, 1, 5] (K' := [(0, .slice A0 a0.length c0), (1, fv1), (5, .int .i64 1)]) (by kernel_rfl) ?_
    refine gl_atE (by kernel_rfl) ?_
    refine ge_seq ?_
    obtain ⟨r6, hl7, hr⟩ := bind_some hr
    refine gk_join (fun t I' L' => ∃ r14, r6 = Sum.inl r14 ∧ I ≤ I' ∧ C0 ++ L = L' ∧ Knows 66 [(0, .slice A0 a0.length c0)] t) ?_ ?_
    · refine gk_block (by kernel_rfl) ?_
      refine gk_pick [0, 1, 5] (K' := [(0, .slice A0 a0.length c0), (1, fv1), (5, .int .i64 1)]) (by kernel_rfl) ?_
      intro t hK
      refine gc_loop (slices_CompactFunc_f31_l18 a0 a1) (fun s8 t I' L' => I ≤ I' ∧ C0 ++ L = L' ∧ Knows 66 [(0, .slice A0 a0.length c0), (1, fv1), (5, .int .i64 s8)] t) (by kernel_rfl) ?_ hl7 ⟨(Imm.refl _), rfl, hK⟩
      rintro s8 o9 t I13 L' hb10 ⟨hI11, rfl, hK12⟩
      unfold slices_CompactFunc_f31_l18 at hb10
      refine gk_at hK12 ?_
      refine gk_seq (by kernel_rfl) ?_
      refine gk_seq (by kernel_rfl) ?_
      refine gk_region (by kernel_rfl) ?_
      refine gl_pure 4 [0, 1, 5, 15] (K' := [(0, .slice A0 a0.length c0), (1, fv1), (5, .int .i64 s8), (15, .bool (decide (s8 < (a0.length : Int))))]) (by kernel_rfl) ?_
      refine gl_atE (by kernel_rfl) ?_
      refine ge_seq ?_
      refine gk_cond (b := (decide (s8 < (a0.length : Int)))) (by kernel_rfl) (by kernel_rfl) (fun hc20 => ?_) (fun hc20 => ?_)
      · have hb10 := cond_t hc20 hb10
        refine gk_skip (by kernel_rfl) ?_
        refine ge_seq ?_
        refine gk_seq (by kernel_rfl) ?_
        refine gk_block (by kernel_rfl) ?_
        refine gk_seq (by kernel_rfl) ?_
        refine gk_draw 10 [(0, true), (1, true), (2, true), (3, true), (4, true), (5, true), (6, true), (7, true), (8, true), (9, true)] (C0 ++ []) (List.forall_mem_append.2 ⟨fun q hq => (List.mem_append_left _ hq), (fun p hp => by cases hp)⟩) (by kernel_rfl) (by kernel_rfl) (by kernel_rfl) ?_ (by kernel_rfl)
        refine gd_pure 3 [0, 1, 5, 18, 19, 20] (K' := [(0, .slice A0 a0.length c0), (1, fv1), (5, .int .i64 s8), (18, fv1), (19, .slice A0 a0.length c0), (20, .int .i64 s8)]) (s' := [(3, true), (4, true), (5, true), (6, true), (7, true), (8, true), (9, true)]) (CC.refl (List.forall_mem_append.2 ⟨fun q hq => (List.mem_append_left _ hq), (fun p hp => by cases hp)⟩)) (by kernel_rfl) ?_
        obtain ⟨x21, hx22, hb10⟩ := bind_some hb10
        obtain ⟨p23, cs24, hR25, hA26, ha27, hg32⟩ := OwnS.ixAtG hx22 (hO0.mono hI11)
        have hi28 := ix_some hx22
        obtain ⟨A29, n30, rfl, hf31⟩ := fr_open hR25
        refine gd_q (v := .pointer (some p23)) (by kernel_rfl) (by kernel_rfl) (CC.refl (List.forall_mem_append.2 ⟨fun q hq => (List.mem_append_left _ hq), (fun p hp => by cases hp)⟩)) (fun I' L' T hC kk => gl_indexAddrF (c := c0) (T' := 22) (e := 39) (xs := (.tmp 19)) (xi := (.tmp 20)) (kd := .i64) ha27 hi28.1 hi28.2.1 (by kernel_rfl) (by kernel_rfl) (by kernel_rfl) (by kernel_rfl) (by kernel_rfl) kk) ?_
        refine gd_q (v := .slice A29 x21.length n30) (by kernel_rfl) (by kernel_rfl) (CC.refl (List.forall_mem_append.2 ⟨fun q hq => (List.mem_append_left _ hq), (fun p hp => by cases hp)⟩)) (fun I' L' T hC kk => gl_loadO (T' := 39) (xp := (.tmp 21)) (p := p23) (c := .slice A29 x21.length n30) (n := 1) (by kernel_rfl) (by kernel_rfl) (by kernel_rfl) (by kernel_rfl) (hA26 _ _ (fun q hq => hC.sub _ (List.mem_append_left _ hq))) kk) ?_
        refine gd_pure 3 [0, 1, 5, 18, 22, 23, 25] (K' := [(0, .slice A0 a0.length c0), (1, fv1), (5, .int .i64 s8), (18, fv1), (22, .slice A29 x21.length n30), (23, .slice A0 a0.length c0), (25, .int .i64 (IntKind.wrap .i64 (s8 - 1)))]) (s' := [(8, true), (9, true)]) (CC.refl (List.forall_mem_append.2 ⟨fun q hq => (List.mem_append_left _ hq), (fun p hp => by cases hp)⟩)) (by kernel_rfl) ?_
        obtain ⟨x33, hx34, hb10⟩ := bind_some hb10
        obtain ⟨p35, cs36, hR37, hA38, ha39, hg44⟩ := OwnS.ixAtG hx34 (hO0.mono hI11)
        have hi40 := ix_some hx34
        obtain ⟨A41, n42, rfl, hf43⟩ := fr_open hR37
        refine gd_q (v := .pointer (some p35)) (by kernel_rfl) (by kernel_rfl) (CC.refl (List.forall_mem_append.2 ⟨fun q hq => (List.mem_append_left _ hq), (fun p hp => by cases hp)⟩)) (fun I' L' T hC kk => gl_indexAddrF (c := c0) (T' := 22) (e := 39) (xs := (.tmp 23)) (xi := (.tmp 25)) (kd := .i64) ha39 hi40.1 hi40.2.1 (by kernel_rfl) (by kernel_rfl) (by kernel_rfl) (by kernel_rfl) (by kernel_rfl) kk) ?_
        refine gd_q (v := .slice A41 x33.length n42) (by kernel_rfl) (by kernel_rfl) (CC.refl (List.forall_mem_append.2 ⟨fun q hq => (List.mem_append_left _ hq), (fun p hp => by cases hp)⟩)) (fun I' L' T hC kk => gl_loadO (T' := 39) (xp := (.tmp 26)) (p := p35) (c := .slice A41 x33.length n42) (n := 1) (by kernel_rfl) (by kernel_rfl) (by kernel_rfl) (by kernel_rfl) (hA38 _ _ (fun q hq => hC.sub _ (List.mem_append_left _ hq))) kk) ?_
        refine gd_done ?_
        obtain ⟨y46, hx45, hb10⟩ := bind_some hb10
        refine gl_callvQ (by kernel_rfl) ((hf1.mono hI11).out _ (Imm.refl _) _ _ _ hx45 _ _ _ _ hf31 hf43 _) ?_
        refine gl_atE (by kernel_rfl) ?_
        refine ge_seq ?_
        refine gk_cond (b := y46) (by kernel_rfl) (by kernel_rfl) (fun hc47 => ?_) (fun hc47 => ?_)
        · have hb10 := cond_t hc47 hb10
          refine gk_seq (by kernel_rfl) ?_
          refine gk_region (by kernel_rfl) ?_
          refine gl_pure 2 [0, 1, 5, 29, 30] (K' := [(0, .slice A0 a0.length c0), (1, fv1), (5, .int .i64 s8), (29, .slice A0 a0.length c0), (30, .int .i64 s8)]) (by kernel_rfl) ?_
          obtain ⟨l49, hx48, hb10⟩ := bind_some hb10
          have hlc50 := OwnS.lenc (hO0.mono hI11)
          have hV51 := OwnS.view hx48 (hO0.mono hI11)
          refine gl_sliceT (A := A0) (c := c0) (n := 1) (T' := 22) (e := 39) (xs := (.tmp 29)) (lo := (some (.tmp 30))) hx48 hlc50 (by kernel_rfl) (by kernel_rfl) (by kernel_rfl) (by kernel_rfl) (by kernel_rfl) ?_
          refine gl_pure 1 [0, 1, 5, 6] (K' := [(0, .slice A0 a0.length c0), (1, fv1), (5, .int .i64 s8), (6, .slice (viewA A0 s8 1 c0) l49.length (c0 - (s8).toNat))]) (by kernel_rfl) ?_
          refine gl_atE (by kernel_rfl) ?_
          refine ge_seq ?_
          refine gk_seq (by kernel_rfl) ?_
          refine gk_seq (by kernel_rfl) ?_
          refine gk_region (by kernel_rfl) ?_
          refine gl_pure 1 [0, 1, 5, 6, 7] (K' := [(0, .slice A0 a0.length c0), (1, fv1), (5, .int .i64 s8), (6, .slice (viewA A0 s8 1 c0) l49.length (c0 - (s8).toNat)), (7, .int .i64 1)]) (by kernel_rfl) ?_
          refine gl_atE (by kernel_rfl) ?_
          refine ge_seq ?_
          obtain ⟨r59, hl60, hb10⟩ := bind_some hb10
          refine gk_join (fun t I' L' => ∃ C71, OwnS (Kd.fr J0 kS50 51) 39 I' A0 c0 r59.1 C71 ∧ I13 ≤ I' ∧ C71 ++ L = L' ∧ Knows 66 [(0, .slice A0 r59.1.length c0), (5, .int .i64 r59.2)] t) ?_ ?_
          · refine gk_block (by kernel_rfl) ?_
            refine gk_pick [0, 1, 5, 6, 7] (K' := [(0, .slice A0 a0.length c0), (1, fv1), (5, .int .i64 s8), (6, .slice (viewA A0 s8 1 c0) l49.length (c0 - (s8).toNat)), (7, .int .i64 1)]) (by kernel_rfl) ?_
            intro t hK
            refine gc_loop (slices_CompactFunc_f31_l76 a1 s8 l49) (fun s61 t I' L' => ∃ C65, OwnS (Kd.fr J0 kS50 51) 39 I' A0 c0 s61.1 C65 ∧ I13 ≤ I' ∧ C65 ++ L = L' ∧ Knows 66 [(0, .slice A0 s61.1.length c0), (1, fv1), (5, .int .i64 s61.2.1), (6, .slice (viewA A0 s8 1 c0) l49.length (c0 - (s8).toNat)), (7, .int .i64 s61.2.2)] t) (by kernel_rfl) ?_ hl60 ⟨C0, (hO0.mono hI11), (Imm.refl _), rfl, hK⟩
            rintro s61 o62 t I69 L' hb63 ⟨C65, hO66, hI64, rfl, hK68⟩
            unfold slices_CompactFunc_f31_l76 at hb63
            refine gk_at hK68 ?_
            refine gk_seq (by kernel_rfl) ?_
            refine gk_seq (by kernel_rfl) ?_
            refine gk_region (by kernel_rfl) ?_
            refine gl_pure 4 [0, 1, 5, 6, 7, 35] (K' := [(0, .slice A0 s61.1.length c0), (1, fv1), (5, .int .i64 s61.2.1), (6, .slice (viewA A0 s8 1 c0) l49.length (c0 - (s8).toNat)), (7, .int .i64 s61.2.2), (35, .bool (decide (s61.2.2 < (l49.length : Int))))]) (by kernel_rfl) ?_
            refine gl_atE (by kernel_rfl) ?_
            refine ge_seq ?_
            refine gk_cond (b := (decide (s61.2.2 < (l49.length : Int)))) (by kernel_rfl) (by kernel_rfl) (fun hc78 => ?_) (fun hc78 => ?_)
            · have hb63 := cond_t hc78 hb63
              refine gk_skip (by kernel_rfl) ?_
              refine ge_seq ?_
              refine gk_seq (by kernel_rfl) ?_
              refine gk_block (by kernel_rfl) ?_
              refine gk_seq (by kernel_rfl) ?_
              refine gk_draw 10 [(0, true), (1, true), (2, true), (3, true), (4, true), (5, true), (6, true), (7, true), (8, true), (9, true)] (C65 ++ []) (List.forall_mem_append.2 ⟨fun q hq => (List.mem_append_left _ hq), (fun p hp => by cases hp)⟩) (by kernel_rfl) (by kernel_rfl) (by kernel_rfl) ?_ (by kernel_rfl)
              refine gd_pure 3 [0, 1, 5, 6, 7, 38, 39, 40] (K' := [(0, .slice A0 s61.1.length c0), (1, fv1), (5, .int .i64 s61.2.1), (6, .slice (viewA A0 s8 1 c0) l49.length (c0 - (s8).toNat)), (7, .int .i64 s61.2.2), (38, fv1), (39, .slice (viewA A0 s8 1 c0) l49.length (c0 - (s8).toNat)), (40, .int .i64 s61.2.2)]) (s' := [(3, true), (4, true), (5, true), (6, true), (7, true), (8, true), (9, true)]) (CC.refl (List.forall_mem_append.2 ⟨fun q hq => (List.mem_append_left _ hq), (fun p hp => by cases hp)⟩)) (by kernel_rfl) ?_
              obtain ⟨x79, hx80, hb63⟩ := bind_some hb63
              obtain ⟨p81, cs82, hR83, hA84, ha85, hi86⟩ := OwnS.ixV hx80 hV51 hO66
              obtain ⟨A87, n88, rfl, hf89⟩ := fr_open hR83
              refine gd_q (v := .pointer (some p81)) (by kernel_rfl) (by kernel_rfl) (CC.refl (List.forall_mem_append.2 ⟨fun q hq => (List.mem_append_left _ hq), (fun p hp => by cases hp)⟩)) (fun I' L' T hC kk => gl_indexAddrF (c := (c0 - (s8).toNat)) (T' := 22) (e := 39) (xs := (.tmp 39)) (xi := (.tmp 40)) (kd := .i64) ha85 hi86.1 hi86.2 (by kernel_rfl) (by kernel_rfl) (by kernel_rfl) (by kernel_rfl) (by kernel_rfl) kk) ?_
              refine gd_q (v := .slice A87 x79.length n88) (by kernel_rfl) (by kernel_rfl) (CC.refl (List.forall_mem_append.2 ⟨fun q hq => (List.mem_append_left _ hq), (fun p hp => by cases hp)⟩)) (fun I' L' T hC kk => gl_loadO (T' := 39) (xp := (.tmp 41)) (p := p81) (c := .slice A87 x79.length n88) (n := 1) (by kernel_rfl) (by kernel_rfl) (by kernel_rfl) (by kernel_rfl) (hA84 _ _ (fun q hq => hC.sub _ (List.mem_append_left _ hq))) kk) ?_
              refine gd_pure 3 [0, 1, 5, 6, 7, 38, 42, 43, 45] (K' := [(0, .slice A0 s61.1.length c0), (1, fv1), (5, .int .i64 s61.2.1), (6, .slice (viewA A0 s8 1 c0) l49.length (c0 - (s8).toNat)), (7, .int .i64 s61.2.2), (38, fv1), (42, .slice A87 x79.length n88), (43, .slice (viewA A0 s8 1 c0) l49.length (c0 - (s8).toNat)), (45, .int .i64 (IntKind.wrap .i64 (s61.2.2 - 1)))]) (s' := [(8, true), (9, true)]) (CC.refl (List.forall_mem_append.2 ⟨fun q hq => (List.mem_append_left _ hq), (fun p hp => by cases hp)⟩)) (by kernel_rfl) ?_
              obtain ⟨x90, hx91, hb63⟩ := bind_some hb63
              obtain ⟨p92, cs93, hR94, hA95, ha96, hi97⟩ := OwnS.ixV hx91 hV51 hO66
              obtain ⟨A98, n99, rfl, hf100⟩ := fr_open hR94
              refine gd_q (v := .pointer (some p92)) (by kernel_rfl) (by kernel_rfl) (CC.refl (List.forall_mem_append.2 ⟨fun q hq => (List.mem_append_left _ hq), (fun p hp => by cases hp)⟩)) (fun I' L' T hC kk => gl_indexAddrF (c := (c0 - (s8).toNat)) (T' := 22) (e := 39) (xs := (.tmp 43)) (xi := (.tmp 45)) (kd := .i64) ha96 hi97.1 hi97.2 (by kernel_rfl) (by kernel_rfl) (by kernel_rfl) (by kernel_rfl) (by kernel_rfl) kk) ?_
              refine gd_q (v := .slice A98 x90.length n99) (by kernel_rfl) (by kernel_rfl) (CC.refl (List.forall_mem_append.2 ⟨fun q hq => (List.mem_append_left _ hq), (fun p hp => by cases hp)⟩)) (fun I' L' T hC kk => gl_loadO (T' := 39) (xp := (.tmp 46)) (p := p92) (c := .slice A98 x90.length n99) (n := 1) (by kernel_rfl) (by kernel_rfl) (by kernel_rfl) (by kernel_rfl) (hA95 _ _ (fun q hq => hC.sub _ (List.mem_append_left _ hq))) kk) ?_
              refine gd_done ?_
              obtain ⟨y102, hx101, hb63⟩ := bind_some hb63
              refine gl_callvQ (by kernel_rfl) ((hf1.mono (Imm.trans hI11 hI64)).out _ (Imm.refl _) _ _ _ hx101 _ _ _ _ hf89 hf100 _) ?_
              refine gl_pure 1 [0, 1, 5, 6, 7, 49] (K' := [(0, .slice A0 s61.1.length c0), (1, fv1), (5, .int .i64 s61.2.1), (6, .slice (viewA A0 s8 1 c0) l49.length (c0 - (s8).toNat)), (7, .int .i64 s61.2.2), (49, .bool (!y102))]) (by kernel_rfl) ?_
              refine gl_atE (by kernel_rfl) ?_
              refine ge_seq ?_
              obtain ⟨j103, hj104, hb63⟩ := bind_some hb63
              refine gk_join (fun t I' L' => ∃ C106, OwnS (Kd.fr J0 kS50 51) 39 I' A0 c0 j103.1 C106 ∧ I69 ≤ I' ∧ C106 ++ L = L' ∧ Knows 66 [(0, .slice A0 j103.1.length c0), (1, fv1), (5, .int .i64 j103.2), (6, .slice (viewA A0 s8 1 c0) l49.length (c0 - (s8).toNat)), (7, .int .i64 s61.2.2)] t) ?_ ?_
              · refine gk_cond (b := (!y102)) (by kernel_rfl) (by kernel_rfl) (fun hc111 => ?_) (fun hc111 => ?_)
                · have hj104 := cond_t hc111 hj104
                  refine gk_seq (by kernel_rfl) ?_
                  refine gk_region (by kernel_rfl) ?_
                  refine gl_pure 4 [0, 1, 5, 6, 7, 50, 51, 52, 53] (K' := [(0, .slice A0 s61.1.length c0), (1, fv1), (5, .int .i64 s61.2.1), (6, .slice (viewA A0 s8 1 c0) l49.length (c0 - (s8).toNat)), (7, .int .i64 s61.2.2), (50, .slice A0 s61.1.length c0), (51, .int .i64 s61.2.1), (52, .slice (viewA A0 s8 1 c0) l49.length (c0 - (s8).toNat)), (53, .int .i64 s61.2.2)]) (by kernel_rfl) ?_
                  obtain ⟨x112, hx113, hj104⟩ := bind_some hj104
                  obtain ⟨p114, cs115, hR116, hA117, ha118, hi119⟩ := OwnS.ixV hx113 hV51 hO66
                  obtain ⟨A120, n121, rfl, hf122⟩ := fr_open hR116
                  refine gl_indexAddrF (c := (c0 - (s8).toNat)) (T' := 22) (e := 39) (xs := (.tmp 52)) (xi := (.tmp 53)) (kd := .i64) ha118 hi119.1 hi119.2 (by kernel_rfl) (by kernel_rfl) (by kernel_rfl) (by kernel_rfl) (by kernel_rfl) ?_
                  refine gl_loadO (T' := 39) (xp := (.tmp 54)) (p := p114) (c := .slice A120 x112.length n121) (n := 1) (by kernel_rfl) (by kernel_rfl) (by kernel_rfl) (by kernel_rfl) (hA117 _ _ (fun q hq => (List.mem_append_left _ hq))) ?_
                  obtain ⟨x123, hx124, hj104⟩ := bind_some hj104
                  refine gl_indexAddrW (d := (Kd.fr J0 kS50 51)) (c := c0) (T' := 22) (e := 39) (xs := (.tmp 50)) (xi := (.tmp 51)) (kd := .i64) hx124 hO66 (Upd.selfC _ _) (by kernel_rfl) (by kernel_rfl) (by kernel_rfl) (by kernel_rfl) (by kernel_rfl) (fun p125 cs126 hR127 hA128 hp134 => ?_)
                  obtain ⟨A131, n132, rfl, hf133⟩ := fr_open hR127
                  have hl137 : s61.1.length = (lset s61.1 s61.2.1 x112).length := by simp [lset]
                  refine gl_storeE (d := (Kd.fr J0 kS50 51)) (T' := 39) (xp := (.tmp 56)) (xv := (.tmp 55)) (v := .slice A120 x112.length n121) (off := 0) (y := x112) (fun X => X ++ L) hx124 hO66 (fun X => (Upd.head _ X _)) hp134 (by kernel_rfl) (by kernel_rfl) (by kernel_rfl) (by kernel_rfl) (by kernel_rfl) (by kernel_rfl) (fun cs h => by obtain ⟨A', c', rfl, _⟩ := fr_open h; exact hR116) (by kernel_rfl) (fun C135 hO136 => ?_)
                  try rw [hl137]
                  refine gl_atE (by kernel_rfl) ?_
                  refine ge_seq ?_
                  refine gk_region (by kernel_rfl) ?_
                  refine gl_pure 3 [0, 1, 5, 6, 7] (K' := [(0, .slice A0 (lset s61.1 s61.2.1 x112).length c0), (1, fv1), (5, .int .i64 (IntKind.wrap .i64 (s61.2.1 + 1))), (6, .slice (viewA A0 s8 1 c0) l49.length (c0 - (s8).toNat)), (7, .int .i64 s61.2.2)]) (by kernel_rfl) ?_
                  refine gl_atE (by kernel_rfl) ?_
                  obtain rfl := some_inj hj104
                  exact ge_mid fun t ht => ⟨C135, hO136, (Imm.refl _), rfl, ht.pick (l := [0, 1, 5, 6, 7]) (by kernel_rfl)⟩
                · have hj104 := cond_f hc111 hj104
                  refine gk_skip (by kernel_rfl) ?_
                  obtain rfl := some_inj hj104
                  exact ge_mid fun t ht => ⟨C65, hO66, (Imm.refl _), rfl, ht.pick (l := [0, 1, 5, 6, 7]) (by kernel_rfl)⟩
              · rintro t I110 L' ⟨C106, hO107, hI105, rfl, hK109⟩
                refine ge_at hK109 ?_
                refine ge_block_normal ?_
                refine ge_seq ?_
                refine gk_region (by kernel_rfl) ?_
                refine gl_pure 3 [0, 1, 5, 6, 7] (K' := [(0, .slice A0 j103.1.length c0), (1, fv1), (5, .int .i64 j103.2), (6, .slice (viewA A0 s8 1 c0) l49.length (c0 - (s8).toNat)), (7, .int .i64 (IntKind.wrap .i64 (s61.2.2 + 1)))]) (by kernel_rfl) ?_
                refine gl_atE (by kernel_rfl) ?_
                obtain rfl := some_inj hb63
                exact ge_round fun t ht => ⟨C106, hO107, (Imm.trans hI64 hI105), rfl, ht.pick (l := [0, 1, 5, 6, 7]) (by kernel_rfl)⟩
            · have hb63 := cond_f hc78 hb63
              refine gk_exit (by kernel_rfl) ?_
              refine ge_seq_exit ?_
              obtain rfl := some_inj hb63
              refine ge_round_out (fun hrr => ?_) (by intro h; cases h)
              obtain rfl := hrr
              refine ge_block_hit (by kernel_rfl) ?_
              exact ge_mid fun t ht => ⟨C65, hO66, hI64, rfl, ht.pick (l := [0, 5]) (by kernel_rfl)⟩
          · rintro t I75 L' ⟨C71, hO72, hI70, rfl, hK74⟩
            refine ge_at hK74 ?_
            refine ge_seq ?_
            refine gk_seq (by kernel_rfl) ?_
            refine gk_region (by kernel_rfl) ?_
            refine gl_pure 2 [0, 5, 59, 60] (K' := [(0, .slice A0 r59.1.length c0), (5, .int .i64 r59.2), (59, .slice A0 r59.1.length c0), (60, .int .i64 r59.2)]) (by kernel_rfl) ?_
            obtain ⟨l139, hx138, hb10⟩ := bind_some hb10
            have hlc140 := OwnS.lenc hO72
            have hV141 := OwnS.view hx138 hO72
            refine gl_sliceT (A := A0) (c := c0) (n := 1) (T' := 22) (e := 39) (xs := (.tmp 59)) (lo := (some (.tmp 60))) hx138 hlc140 (by kernel_rfl) (by kernel_rfl) (by kernel_rfl) (by kernel_rfl) (by kernel_rfl) ?_
            obtain ⟨zs142, hz143, hb10⟩ := bind_some hb10
            have hl146 : r59.1.length = zs142.length := (clrv_length hz143).symm
            refine gl_clearV (d := (Kd.fr J0 kS50 51)) (c' := (c0 - (r59.2).toNat)) (t := 22) (e := 39) (x := (.tmp 61)) (zc := #[.slice none 0 0]) (fun X => X ++ L) hz143 hV141 hO72 (fun X => (Upd.head _ X _)) (by kernel_rfl) (by kernel_rfl) (by kernel_rfl) (by kernel_rfl) (by kernel_rfl) (by kernel_rfl) fr_nil (fun C144 hO145 => ?_)
            try rw [hl146]
            refine gl_atE (by kernel_rfl) ?_
            refine ge_seq ?_
            refine gk_seq (by kernel_rfl) ?_
            refine gk_region (by kernel_rfl) ?_
            refine gl_pure 2 [62, 63] (K' := [(62, .slice A0 zs142.length c0), (63, .int .i64 r59.2)]) (by kernel_rfl) ?_
            obtain ⟨l148, hx147, hb10⟩ := bind_some hb10
            have hlc149 := OwnS.lenc hO145
            have hd150 := lx_take hx147
            refine gl_sliceH (A := A0) (c := c0) (n := 1) (T' := 22) (e := 39) (xs := (.tmp 62)) (lo := none) (hi := (some (.tmp 63))) hx147 hlc149 (by kernel_rfl) (by kernel_rfl) (by kernel_rfl) (by kernel_rfl) (by kernel_rfl) (by kernel_rfl) ?_
            refine gl_pure 1 [4] (K' := [(4, .slice A0 l148.length c0)]) (by kernel_rfl) ?_
            refine gl_atE (by kernel_rfl) ?_
            refine ge_seq ?_
            refine gk_ret (by kernel_rfl) ?_
            refine ge_block_ret ?_
            refine ge_seq_ret ?_
            obtain rfl := some_inj hb10
            refine ge_round_out (fun hrr => ?_) (by intro h; cases h)
            obtain rfl := hrr
            refine ge_block_ret ?_
            refine ge_seq_ret ?_
            refine ge_seq_ret ?_
            obtain rfl := some_inj hr
            exact ge_result trivial (ResOk.tmp (by kernel_rfl) ResOk.nil) (Imm.trans hI11 hI70) ⟨A0, c0, C144, (OwnS.head hd150 hO145), rfl, rfl⟩
        · have hb10 := cond_f hc47 hb10
          refine gk_skip (by kernel_rfl) ?_
          refine ge_block_normal ?_
          refine ge_seq ?_
          refine gk_region (by kernel_rfl) ?_
          refine gl_pure 3 [0, 1, 5] (K' := [(0, .slice A0 a0.length c0), (1, fv1), (5, .int .i64 (IntKind.wrap .i64 (s8 + 1)))]) (by kernel_rfl) ?_
          refine gl_atE (by kernel_rfl) ?_
          obtain rfl := some_inj hb10
          exact ge_round fun t ht => ⟨hI11, rfl, ht.pick (l := [0, 1, 5]) (by kernel_rfl)⟩
      · have hb10 := cond_f hc20 hb10
        refine gk_exit (by kernel_rfl) ?_
        refine ge_seq_exit ?_
        obtain rfl := some_inj hb10
        refine ge_round_out (fun hrr => ?_) (by intro h; cases h)
        obtain rfl := hrr
        refine ge_block_hit (by kernel_rfl) ?_
        exact ge_mid fun t ht => ⟨_, rfl, hI11, rfl, ht.pick (l := [0]) (by kernel_rfl)⟩
    · rintro t I17 L' ⟨r14, rfl, hI15, rfl, hK16⟩
      refine ge_at hK16 ?_
      refine ge_seq ?_
      refine gk_seq (by kernel_rfl) ?_
      refine gk_region (by kernel_rfl) ?_
      refine gl_pure 2 [4] (K' := [(4, .slice A0 a0.length c0)]) (by kernel_rfl) ?_
      refine gl_atE (by kernel_rfl) ?_
      refine ge_seq ?_
      refine gk_ret (by kernel_rfl) ?_
      obtain rfl := some_inj hr
      exact ge_result trivial (ResOk.tmp (by kernel_rfl) ResOk.nil) hI15 ⟨A0, c0, C0, (hO0.mono hI15), rfl, rfl⟩
/-! 32 nflog_Sorted_1  -/
noncomputable def nflog_Sorted_1 (a0 : List S50) (a1 : List S50) : Option Bool :=
  Option.bind (labels_Compare a0 a1) fun (y1 : Int) =>
  some (y1 == 0)
theorem nflog_Sorted_1_walk {a0 : List S50} {A0_0 : Option Addr} {n0_0 : Nat} {a1 : List S50} {A1_0 : Option Addr} {n1_0 : Nat} {I : Imm} {r : Bool}  (hf0_0 : RepS kS50 I A0_0 n0_0 a0)  (hf1_0 : RepS kS50 I A1_0 n1_0 a1) (hr : nflog_Sorted_1 a0 a1 = some r) (L : Own) :
    CallsTo Tryd.prog 32 #[.slice A0_0 a0.length n0_0, .slice A1_0 a1.length n1_0] I L (fun v I' L' => v = .bool r ∧ L = L') := by
  unfold nflog_Sorted_1 at hr
  refine callsTo_body (N := 9) Tryd.func32 (by kernel_rfl) (by kernel_rfl) (by kernel_rfl) ?_
  refine gk_pick [0, 1] (K' := [(0, .slice A0_0 a0.length n0_0), (1, .slice A1_0 a1.length n1_0)]) (by kernel_rfl) ?_
  refine gk_seq (by kernel_rfl) ?_
  refine gk_region (by kernel_rfl) ?_
  refine gl_pure 1 [0, 1] (K' := [(0, .slice A0_0 a0.length n0_0), (1, .slice A1_0 a1.length n1_0)]) (by kernel_rfl) ?_
  refine gl_atE (by kernel_rfl) ?_
  refine ge_seq ?_
  refine gk_seq (by kernel_rfl) ?_
  refine gk_region (by kernel_rfl) ?_
  refine gl_pure 2 [5, 6] (K' := [(5, .slice A0_0 a0.length n0_0), (6, .slice A1_0 a1.length n1_0)]) (by kernel_rfl) ?_
  obtain ⟨y1, hx2, hr⟩ := bind_some hr
  refine gl_callQ (by kernel_rfl) (labels_Compare_walk (r := y1) hf0_0 hf1_0 hx2 _) ?_
  refine gl_pure 2 [4] (K' := [(4, .bool (y1 == 0))]) (by kernel_rfl) ?_
  refine gl_atE (by kernel_rfl) ?_
  refine ge_seq ?_
  refine gk_ret (by kernel_rfl) ?_
  obtain rfl := some_inj hr
  exact ge_result trivial (ResOk.tmp (by kernel_rfl) ResOk.nil) (Imm.refl _) ⟨rfl, rfl⟩
theorem nflog_Sorted_1_impl47  {I : Imm}  : Fn47 I (.func (.func 32) #[] #[]) nflog_Sorted_1 := ⟨fun I' hI x0 x1 r hr A0_0 c0_0 A1_0 c1_0 h0_0 h1_0 L => ⟨32, #[], #[], rfl, ⟨_, Tryd.func32, by kernel_rfl, by kernel_rfl⟩, by
  simp only [List.append_toArray, List.nil_append, List.append_nil, Array.append_empty, Array.empty_append, List.push_append_toArray, List.cons_append]
  exact nflog_Sorted_1_walk  h0_0 h1_0  hr L⟩⟩
/-! 12 nflog_Sorted  -/
noncomputable def nflog_Sorted (a0 : List (List S50)) : Option ((List (List S50)) × Int) :=
  Option.bind (nflog_right a0) fun (y1 : Bool) =>
  bif (!y1) then
  (some ([], 41))
  else
  (Option.bind (nflog_sets a0) fun (y4 : (List (List S50))) =>
    Option.bind (sortO (fun l => l.length ≤ 2147483648) labels_Compare y4) fun (zs13 : List (List S50)) =>
    Option.bind (slices_CompactFunc_f31 zs13 nflog_Sorted_1) fun (y21 : (List (List S50))) =>
    some (y21, 0))
theorem nflog_Sorted_walk {J0 : Imm} {a0 : List (List S50)} {A0_0 : Option Addr} {n0_0 : Nat} {I : Imm} {r : (List (List S50)) × Int} (hG : Gl I)  (hf0_0 : RepS (Kd.sl kS50) I A0_0 n0_0 a0) (hJ0 : J0 ≤ I) (hr : nflog_Sorted a0 = some r) (L : Own) :
    CallsTo Tryd.prog 12 #[.slice A0_0 a0.length n0_0] I L (fun v I' L' => ∃ A0 c0 C0, OwnS (Kd.fr J0 kS50 51) 39 I' A0 c0 r.1 C0 ∧ v = .tuple #[.slice A0 r.1.length c0, .int .i64 r.2] ∧ C0 ++ L = L') := by
  unfold nflog_Sorted at hr
  refine callsTo_body (N := 14) Tryd.func12 (by kernel_rfl) (by kernel_rfl) (by kernel_rfl) ?_
  refine gk_pick [0] (K' := [(0, .slice A0_0 a0.length n0_0)]) (by kernel_rfl) ?_
  refine gk_seq (by kernel_rfl) ?_
  refine gk_region (by kernel_rfl) ?_
  refine gl_pure 2 [0] (K' := [(0, .slice A0_0 a0.length n0_0)]) (by kernel_rfl) ?_
  refine gl_atE (by kernel_rfl) ?_
  refine ge_seq ?_
  refine gk_seq (by kernel_rfl) ?_
  refine gk_seq (by kernel_rfl) ?_
  refine gk_region (by kernel_rfl) ?_
  refine gl_pure 1 [0, 5] (K' := [(0, .slice A0_0 a0.length n0_0), (5, .slice A0_0 a0.length n0_0)]) (by kernel_rfl) ?_
  obtain ⟨y1, hx2, hr⟩ := bind_some hr
  refine gl_callQ (by kernel_rfl) (nflog_right_walk (r := y1) hG hf0_0 hx2 _) ?_
  refine gl_pure 1 [0, 7] (K' := [(0, .slice A0_0 a0.length n0_0), (7, .bool (!y1))]) (by kernel_rfl) ?_
  refine gl_atE (by kernel_rfl) ?_
  refine ge_seq ?_
  refine gk_cond (b := (!y1)) (by kernel_rfl) (by kernel_rfl) (fun hc3 => ?_) (fun hc3 => ?_)
  · have hr := cond_t hc3 hr
    refine gk_seq (by kernel_rfl) ?_
    refine gk_region (by kernel_rfl) ?_
    refine gl_pure 2 [2, 3] (K' := [(2, .slice none 0 0), (3, .int .i64 41)]) (by kernel_rfl) ?_
    refine gl_atE (by kernel_rfl) ?_
    refine ge_seq ?_
    refine gk_ret (by kernel_rfl) ?_
    refine ge_seq_ret ?_
    obtain rfl := some_inj hr
    exact ge_result trivial (ResOk.tmp (by kernel_rfl) (ResOk.tmp (by kernel_rfl) ResOk.nil)) (Imm.refl _) ⟨none, 0, [], OwnS.nil _ _ _ _, rfl, rfl⟩
  · have hr := cond_f hc3 hr
    refine gk_skip (by kernel_rfl) ?_
    refine ge_seq ?_
    refine gk_seq (by kernel_rfl) ?_
    refine gk_region (by kernel_rfl) ?_
    refine gl_pure 1 [8] (K' := [(8, .slice A0_0 a0.length n0_0)]) (by kernel_rfl) ?_
    obtain ⟨y4, hx5, hr⟩ := bind_some hr
    refine gl_call (by kernel_rfl) (nflog_sets_walkF (hJ0 := hJ0) (r := y4) hf0_0 hx5 _) ?_
    rintro v I6 L7 hI8 ⟨A9, c10, C11, hO12, rfl, rfl⟩
    refine gl_pure 1 [4] (K' := [(4, .slice A9 y4.length c10)]) (by kernel_rfl) ?_
    refine gl_atE (by kernel_rfl) ?_
    refine ge_seq ?_
    refine gk_seq (by kernel_rfl) ?_
    refine gk_region (by kernel_rfl) ?_
    refine gl_pure 1 [4, 10] (K' := [(4, .slice A9 y4.length c10), (10, .slice A9 y4.length c10)]) (by kernel_rfl) ?_
    obtain ⟨zs13, hz14, hr⟩ := bind_some hr
    have hl20 : y4.length = zs13.length := (sortO_length hz14).symm
    refine gl_call (by kernel_rfl) (slices_SortFunc_30_27_walkF (a0 := y4) (A := A9) (c := c10) (C := C11) (r := zs13) hO12 hz14 _) ?_
    rintro v I17 L18 hI19 ⟨C15, hO16, rfl, rfl⟩
    try rw [hl20]
    refine gl_atE (by kernel_rfl) ?_
    refine ge_seq ?_
    refine gk_seq (by kernel_rfl) ?_
    refine gk_region (by kernel_rfl) ?_
    refine gl_pure 1 [12] (K' := [(12, .slice A9 zs13.length c10)]) (by kernel_rfl) ?_
    obtain ⟨y21, hx22, hr⟩ := bind_some hr
    refine gl_call (by kernel_rfl) (slices_CompactFunc_f31_walkF (r := y21) (A0 := A9) (c0 := c10) (C0 := C15) (a0 := zs13) hO16 nflog_Sorted_1_impl47 hx22 _) ?_
    rintro v I23 L24 hI25 ⟨A26, c27, C28, hO29, rfl, rfl⟩
    refine gl_pure 2 [2, 3] (K' := [(2, .slice A26 y21.length c27), (3, .int .i64 0)]) (by kernel_rfl) ?_
    refine gl_atE (by kernel_rfl) ?_
    refine ge_seq ?_
    refine gk_ret (by kernel_rfl) ?_
    obtain rfl := some_inj hr
    exact ge_result trivial (ResOk.tmp (by kernel_rfl) (ResOk.tmp (by kernel_rfl) ResOk.nil)) (Imm.trans (Imm.trans hI8 hI19) hI25) ⟨A26, c27, C28, hO29, rfl, rfl⟩
/-! 13 tocsinref26_Sorted  -/
noncomputable def tocsinref26_Sorted_l69 (s14 : (List (List S50)) × Int) (x43 : List S50) : Int → Option ((Int) ⊕ (Int)) := fun s60 =>
  Option.bind (bif (decide (s60 < (s14.1.length : Int))) then
    (Option.bind (ix s14.1 s60) fun (x77 : List S50) =>
      Option.bind (tocsinref04_Compare x77 x43) fun (y89 : Int) =>
      some (decide (y89 < 0)))
    else
    (some false)) fun (j71 : Bool) =>
  bif j71 then
  (some (Sum.inl (IntKind.wrap .i64 (s60 + 1))))
  else
  (some (Sum.inr s60))
noncomputable def tocsinref26_Sorted_l31 (a0 : List (List S50)) : ((List (List S50)) × Int) → Option (((List (List S50)) × Int) ⊕ ((List (List S50)))) := fun s14 =>
  bif (decide (s14.2 < (a0.length : Int))) then
  (Option.bind (Option.bind (ix a0 s14.2) fun (x43 : List S50) =>
      Option.bind (loopO (tocsinref26_Sorted_l69 s14 x43) 0) fun (r58 : Int) =>
      Option.bind (bif (decide (r58 < (s14.1.length : Int))) then
        (Option.bind (ix s14.1 r58) fun (x98 : List S50) =>
          Option.bind (tocsinref04_Same x98 x43) fun (y110 : Bool) =>
          some y110)
        else
        (some false)) fun (j92 : Bool) =>
      bif j92 then
      (some s14.1)
      else
      (Option.bind (lx s14.1 0 r58) fun (l114 : List (List S50)) =>
        Option.bind (app ([] : List (List S50)) l114) fun (zs117 : List (List S50)) =>
        Option.bind (app zs117 [x43]) fun (zs127 : List (List S50)) =>
        Option.bind (lx s14.1 r58 (s14.1.length : Int)) fun (l134 : List (List S50)) =>
        Option.bind (app zs127 l134) fun (zs137 : List (List S50)) =>
        some zs137)) fun (j34 : (List (List S50))) =>
    some (Sum.inl (j34, (IntKind.wrap .i64 (s14.2 + 1)))))
  else
  (some (Sum.inr s14.1))
noncomputable def tocsinref26_Sorted (a0 : List (List S50)) : Option ((List (List S50)) × Int) :=
  Option.bind (tocsinref26_sets a0) fun (y1 : Bool) =>
  bif (!y1) then
  (some ([], 41))
  else
  (Option.bind (loopO (tocsinref26_Sorted_l31 a0) ([], 0)) fun (r12 : (List (List S50))) =>
    some (r12, 0))
theorem tocsinref26_Sorted_walk {a0 : List (List S50)} {A0_0 : Option Addr} {n0_0 : Nat} {I : Imm} {r : (List (List S50)) × Int}  (hf0_0 : RepS (Kd.sl kS50) I A0_0 n0_0 a0) (hr : tocsinref26_Sorted a0 = some r) (L : Own) :
    CallsTo Tryd.prog 13 #[.slice A0_0 a0.length n0_0] I L (fun v I' L' => ∃ A0 c0 C0, OwnS (Kd.sl kS50) 39 I' A0 c0 r.1 C0 ∧ v = .tuple #[.slice A0 r.1.length c0, .int .i64 r.2] ∧ C0 ++ L = L') := by
  unfold tocsinref26_Sorted at hr
  refine callsTo_body (N := 62) Tryd.func13 (by kernel_rfl) (by kernel_rfl) (by kernel_rfl) ?_
  refine gk_pick [0] (K' := [(0, .slice A0_0 a0.length n0_0)]) (by kernel_rfl) ?_
  refine gk_seq (by kernel_rfl) ?_
  refine gk_region (by kernel_rfl) ?_
  refine gl_pure 2 [0] (K' := [(0, .slice A0_0 a0.length n0_0)]) (by kernel_rfl) ?_
  refine gl_atE (by kernel_rfl) ?_
  refine ge_seq ?_
  refine gk_seq (by kernel_rfl) ?_
  refine gk_seq (by kernel_rfl) ?_
  refine gk_region (by kernel_rfl) ?_
  refine gl_pure 1 [0, 9] (K' := [(0, .slice A0_0 a0.length n0_0), (9, .slice A0_0 a0.length n0_0)]) (by kernel_rfl) ?_
  obtain ⟨y1, hx2, hr⟩ := bind_some hr
  refine gl_callQ (by kernel_rfl) (tocsinref26_sets_walk (r := y1) hf0_0 hx2 _) ?_
  refine gl_pure 1 [0, 11] (K' := [(0, .slice A0_0 a0.length n0_0), (11, .bool (!y1))]) (by kernel_rfl) ?_
  refine gl_atE (by kernel_rfl) ?_
  refine ge_seq ?_
  refine gk_cond (b := (!y1)) (by kernel_rfl) (by kernel_rfl) (fun hc3 => ?_) (fun hc3 => ?_)
  · have hr := cond_t hc3 hr
    refine gk_seq (by kernel_rfl) ?_
    refine gk_region (by kernel_rfl) ?_
    refine gl_pure 2 [2, 3] (K' := [(2, .slice none 0 0), (3, .int .i64 41)]) (by kernel_rfl) ?_
    refine gl_atE (by kernel_rfl) ?_
    refine ge_seq ?_
    refine gk_ret (by kernel_rfl) ?_
    refine ge_seq_ret ?_
    obtain rfl := some_inj hr
    exact ge_result trivial (ResOk.tmp (by kernel_rfl) (ResOk.tmp (by kernel_rfl) ResOk.nil)) (Imm.refl _) ⟨none, 0, [], OwnS.nil _ _ _ _, rfl, rfl⟩
  · have hr := cond_f hc3 hr
    refine gk_skip (by kernel_rfl) ?_
    refine ge_seq ?_
    refine gk_seq (by kernel_rfl) ?_
    refine gk_region (by kernel_rfl) ?_
    refine gl_pure 1 [0, 4] (K' := [(0, .slice A0_0 a0.length n0_0), (4, .slice none 0 0)]) (by kernel_rfl) ?_
    refine gl_atE (by kernel_rfl) ?_
    refine ge_seq ?_
    refine gk_seq (by kernel_rfl) ?_
    refine gk_seq (by kernel_rfl) ?_
    refine gk_region (by kernel_rfl) ?_
    refine gl_pure 3 [4, 12, 13, 14] (K' := [(4, .slice none 0 0), (12, .slice A0_0 a0.length n0_0), (13, .int .i64 (a0.length : Int)), (14, .int .i64 0)]) (by kernel_rfl) ?_
    refine gl_atE (by kernel_rfl) ?_
    refine ge_seq ?_
    obtain ⟨r12, hl13, hr⟩ := bind_some hr
    refine gk_join (fun t I' L' => ∃ A25 n26 C27, OwnS (Kd.sl kS50) 39 I' A25 n26 r12 C27 ∧ I ≤ I' ∧ C27 ++ L = L' ∧ Knows 62 [(4, .slice A25 r12.length n26)] t) ?_ ?_
    · refine gk_block (by kernel_rfl) ?_
      refine gk_pick [4, 12, 13, 14] (K' := [(4, .slice none 0 0), (12, .slice A0_0 a0.length n0_0), (13, .int .i64 (a0.length : Int)), (14, .int .i64 0)]) (by kernel_rfl) ?_
      intro t hK
      refine gc_loop (tocsinref26_Sorted_l31 a0) (fun s14 t I' L' => ∃ A18 n19 C20, OwnS (Kd.sl kS50) 39 I' A18 n19 s14.1 C20 ∧ I ≤ I' ∧ C20 ++ L = L' ∧ Knows 62 [(4, .slice A18 s14.1.length n19), (12, .slice A0_0 a0.length n0_0), (13, .int .i64 (a0.length : Int)), (14, .int .i64 s14.2)] t) (by kernel_rfl) ?_ hl13 ⟨none, 0, [], OwnS.nil _ _ _ _, (Imm.refl _), rfl, hK⟩
      rintro s14 o15 t I23 L' hb16 ⟨A18, n19, C20, hO21, hI17, rfl, hK22⟩
      unfold tocsinref26_Sorted_l31 at hb16
      refine gk_at hK22 ?_
      refine gk_seq (by kernel_rfl) ?_
      refine gk_region (by kernel_rfl) ?_
      refine gl_pure 1 [4, 12, 13, 14, 15] (K' := [(4, .slice A18 s14.1.length n19), (12, .slice A0_0 a0.length n0_0), (13, .int .i64 (a0.length : Int)), (14, .int .i64 s14.2), (15, .bool (decide (s14.2 < (a0.length : Int))))]) (by kernel_rfl) ?_
      refine gl_atE (by kernel_rfl) ?_
      refine ge_seq ?_
      refine gk_seq (by kernel_rfl) ?_
      refine gk_cond (b := (decide (s14.2 < (a0.length : Int)))) (by kernel_rfl) (by kernel_rfl) (fun hc33 => ?_) (fun hc33 => ?_)
      · have hb16 := cond_t hc33 hb16
        refine gk_skip (by kernel_rfl) ?_
        refine ge_seq ?_
        refine gk_seq (by kernel_rfl) ?_
        obtain ⟨j34, hj35, hb16⟩ := bind_some hb16
        refine gk_join (fun t I' L' => ∃ A37 n38 C39, OwnS (Kd.sl kS50) 39 I' A37 n38 j34 C39 ∧ I23 ≤ I' ∧ C39 ++ L = L' ∧ Knows 62 [(4, .slice A37 j34.length n38), (12, .slice A0_0 a0.length n0_0), (13, .int .i64 (a0.length : Int)), (14, .int .i64 s14.2)] t) ?_ ?_
        · refine gk_block (by kernel_rfl) ?_
          refine gk_seq (by kernel_rfl) ?_
          refine gk_region (by kernel_rfl) ?_
          obtain ⟨x43, hx44, hj35⟩ := bind_some hj35
          obtain ⟨p45, cs46, hR47, hA48, ha49⟩ := RepS.ixAt hx44 (hf0_0.mono hI17)
          have hi50 := ix_some hx44
          obtain ⟨A51, n52, rfl, hf53⟩ := sl_open hR47
          refine gl_indexAddrF (c := n0_0) (T' := 22) (e := 39) (xs := (.tmp 12)) (xi := (.tmp 14)) (kd := .i64) ha49 hi50.1 hi50.2.1 (by kernel_rfl) (by kernel_rfl) (by kernel_rfl) (by kernel_rfl) (by kernel_rfl) ?_
          refine gl_load (T' := 39) (xp := (.tmp 16)) (p := p45) (c := .slice A51 x43.length n52) (n := 1) (by kernel_rfl) (by kernel_rfl) (by kernel_rfl) (by kernel_rfl) hA48 ?_
          refine gl_pure 1 [4, 6, 12, 13, 14] (K' := [(4, .slice A18 s14.1.length n19), (6, .slice A51 x43.length n52), (12, .slice A0_0 a0.length n0_0), (13, .int .i64 (a0.length : Int)), (14, .int .i64 s14.2)]) (by kernel_rfl) ?_
          refine gl_atE (by kernel_rfl) ?_
          refine ge_seq ?_
          refine gk_seq (by kernel_rfl) ?_
          refine gk_region (by kernel_rfl) ?_
          refine gl_pure 1 [4, 6, 7, 12, 13, 14] (K' := [(4, .slice A18 s14.1.length n19), (6, .slice A51 x43.length n52), (7, .int .i64 0), (12, .slice A0_0 a0.length n0_0), (13, .int .i64 (a0.length : Int)), (14, .int .i64 s14.2)]) (by kernel_rfl) ?_
          refine gl_atE (by kernel_rfl) ?_
          refine ge_seq ?_
          refine gk_seq (by kernel_rfl) ?_
          obtain ⟨r58, hl59, hj35⟩ := bind_some hj35
          refine gk_join (fun t I' L' => I23 ≤ I' ∧ C20 ++ L = L' ∧ Knows 62 [(4, .slice A18 s14.1.length n19), (6, .slice A51 x43.length n52), (7, .int .i64 r58), (12, .slice A0_0 a0.length n0_0), (13, .int .i64 (a0.length : Int)), (14, .int .i64 s14.2)] t) ?_ ?_
          · refine gk_block (by kernel_rfl) ?_
            refine gk_pick [4, 6, 7, 12, 13, 14] (K' := [(4, .slice A18 s14.1.length n19), (6, .slice A51 x43.length n52), (7, .int .i64 0), (12, .slice A0_0 a0.length n0_0), (13, .int .i64 (a0.length : Int)), (14, .int .i64 s14.2)]) (by kernel_rfl) ?_
            intro t hK
            refine gc_loop (tocsinref26_Sorted_l69 s14 x43) (fun s60 t I' L' => I23 ≤ I' ∧ C20 ++ L = L' ∧ Knows 62 [(4, .slice A18 s14.1.length n19), (6, .slice A51 x43.length n52), (7, .int .i64 s60), (12, .slice A0_0 a0.length n0_0), (13, .int .i64 (a0.length : Int)), (14, .int .i64 s14.2)] t) (by kernel_rfl) ?_ hl59 ⟨(Imm.refl _), rfl, hK⟩
            rintro s60 o61 t I65 L' hb62 ⟨hI63, rfl, hK64⟩
            unfold tocsinref26_Sorted_l69 at hb62
            refine gk_at hK64 ?_
            refine gk_seq (by kernel_rfl) ?_
            refine gk_seq (by kernel_rfl) ?_
            obtain ⟨j71, hj72, hb62⟩ := bind_some hb62
            refine gk_join (fun t I' L' => I65 ≤ I' ∧ C20 ++ L = L' ∧ Knows 62 [(4, .slice A18 s14.1.length n19), (6, .slice A51 x43.length n52), (7, .int .i64 s60), (12, .slice A0_0 a0.length n0_0), (13, .int .i64 (a0.length : Int)), (14, .int .i64 s14.2), (30, .bool j71)] t) ?_ ?_
            · refine gk_region (by kernel_rfl) ?_
              refine gl_pure 5 [4, 6, 7, 12, 13, 14, 22] (K' := [(4, .slice A18 s14.1.length n19), (6, .slice A51 x43.length n52), (7, .int .i64 s60), (12, .slice A0_0 a0.length n0_0), (13, .int .i64 (a0.length : Int)), (14, .int .i64 s14.2), (22, .bool (decide (s60 < (s14.1.length : Int))))]) (by kernel_rfl) ?_
              refine gl_case 22 (b := (decide (s60 < (s14.1.length : Int)))) (by kernel_rfl) (fun hc76 => ?_) (fun hc76 => ?_)
              · have hj72 := cond_t hc76 hj72
                refine gl_pure 2 [4, 6, 7, 12, 13, 14, 22, 23, 24] (K' := [(4, .slice A18 s14.1.length n19), (6, .slice A51 x43.length n52), (7, .int .i64 s60), (12, .slice A0_0 a0.length n0_0), (13, .int .i64 (a0.length : Int)), (14, .int .i64 s14.2), (22, .bool true), (23, .slice A18 s14.1.length n19), (24, .int .i64 s60)]) (by kernel_rfl) ?_
                obtain ⟨x77, hx78, hj72⟩ := bind_some hj72
                refine gl_indexAddrW (d := (Kd.sl kS50)) (c := n19) (T' := 22) (e := 39) (xs := (.tmp 23)) (xi := (.tmp 24)) (kd := .i64) hx78 (hO21.mono hI63) (Upd.selfC _ _) (by kernel_rfl) (by kernel_rfl) (by kernel_rfl) (by kernel_rfl) (by kernel_rfl) (fun p79 cs80 hR81 hA82 hp88 => ?_)
                obtain ⟨A85, n86, rfl, hf87⟩ := sl_open hR81
                refine gl_loadO (T' := 39) (xp := (.tmp 25)) (p := p79) (c := .slice A85 x77.length n86) (n := 1) (by kernel_rfl) (by kernel_rfl) (by kernel_rfl) (by kernel_rfl) hA82 ?_
                refine gl_pure 1 [4, 6, 7, 12, 13, 14, 22, 26, 27] (K' := [(4, .slice A18 s14.1.length n19), (6, .slice A51 x43.length n52), (7, .int .i64 s60), (12, .slice A0_0 a0.length n0_0), (13, .int .i64 (a0.length : Int)), (14, .int .i64 s14.2), (22, .bool true), (26, .slice A85 x77.length n86), (27, .slice A51 x43.length n52)]) (by kernel_rfl) ?_
                obtain ⟨y89, hx90, hj72⟩ := bind_some hj72
                refine gl_callQ (by kernel_rfl) (tocsinref04_Compare_walk (r := y89) hf87 (hf53.mono hI63) hx90 _) ?_
                refine gl_pure 2 [4, 6, 7, 12, 13, 14, 30] (K' := [(4, .slice A18 s14.1.length n19), (6, .slice A51 x43.length n52), (7, .int .i64 s60), (12, .slice A0_0 a0.length n0_0), (13, .int .i64 (a0.length : Int)), (14, .int .i64 s14.2), (30, .bool (decide (y89 < 0)))]) (by kernel_rfl) ?_
                refine gl_atE (by kernel_rfl) ?_
                obtain rfl := some_inj hj72
                exact ge_mid fun t ht => ⟨(Imm.refl _), rfl, ht.pick (l := [4, 6, 7, 12, 13, 14, 30]) (by kernel_rfl)⟩
              · have hj72 := cond_f hc76 hj72
                refine gl_pure 8 [4, 6, 7, 12, 13, 14, 30] (K' := [(4, .slice A18 s14.1.length n19), (6, .slice A51 x43.length n52), (7, .int .i64 s60), (12, .slice A0_0 a0.length n0_0), (13, .int .i64 (a0.length : Int)), (14, .int .i64 s14.2), (30, .bool false)]) (by kernel_rfl) ?_
                refine gl_atE (by kernel_rfl) ?_
                obtain rfl := some_inj hj72
                exact ge_mid fun t ht => ⟨(Imm.refl _), rfl, ht.pick (l := [4, 6, 7, 12, 13, 14, 30]) (by kernel_rfl)⟩
            · rintro t I75 L' ⟨hI73, rfl, hK74⟩
              refine ge_at hK74 ?_
              refine ge_seq ?_
              refine gk_cond (b := j71) (by kernel_rfl) (by kernel_rfl) (fun hc91 => ?_) (fun hc91 => ?_)
              · have hb62 := cond_t hc91 hb62
                refine gk_skip (by kernel_rfl) ?_
                refine ge_seq ?_
                refine gk_block (by kernel_rfl) ?_
                refine gk_region (by kernel_rfl) ?_
                refine gl_pure 3 [4, 6, 7, 12, 13, 14] (K' := [(4, .slice A18 s14.1.length n19), (6, .slice A51 x43.length n52), (7, .int .i64 (IntKind.wrap .i64 (s60 + 1))), (12, .slice A0_0 a0.length n0_0), (13, .int .i64 (a0.length : Int)), (14, .int .i64 s14.2)]) (by kernel_rfl) ?_
                refine gl_atE (by kernel_rfl) ?_
                refine ge_block_normal ?_
                obtain rfl := some_inj hb62
                exact ge_round fun t ht => ⟨(Imm.trans hI63 hI73), rfl, ht.pick (l := [4, 6, 7, 12, 13, 14]) (by kernel_rfl)⟩
              · have hb62 := cond_f hc91 hb62
                refine gk_exit (by kernel_rfl) ?_
                refine ge_seq_exit ?_
                obtain rfl := some_inj hb62
                refine ge_round_out (fun hrr => ?_) (by intro h; cases h)
                obtain rfl := hrr
                refine ge_block_hit (by kernel_rfl) ?_
                exact ge_mid fun t ht => ⟨(Imm.trans hI63 hI73), rfl, ht.pick (l := [4, 6, 7, 12, 13, 14]) (by kernel_rfl)⟩
          · rintro t I68 L' ⟨hI66, rfl, hK67⟩
            refine ge_at hK67 ?_
            refine ge_seq ?_
            refine gk_seq (by kernel_rfl) ?_
            refine gk_seq (by kernel_rfl) ?_
            obtain ⟨j92, hj93, hj35⟩ := bind_some hj35
            refine gk_join (fun t I' L' => I68 ≤ I' ∧ C20 ++ L = L' ∧ Knows 62 [(4, .slice A18 s14.1.length n19), (6, .slice A51 x43.length n52), (7, .int .i64 r58), (12, .slice A0_0 a0.length n0_0), (13, .int .i64 (a0.length : Int)), (14, .int .i64 s14.2), (44, .bool j92)] t) ?_ ?_
            · refine gk_region (by kernel_rfl) ?_
              refine gl_pure 5 [4, 6, 7, 12, 13, 14, 37] (K' := [(4, .slice A18 s14.1.length n19), (6, .slice A51 x43.length n52), (7, .int .i64 r58), (12, .slice A0_0 a0.length n0_0), (13, .int .i64 (a0.length : Int)), (14, .int .i64 s14.2), (37, .bool (decide (r58 < (s14.1.length : Int))))]) (by kernel_rfl) ?_
              refine gl_case 37 (b := (decide (r58 < (s14.1.length : Int)))) (by kernel_rfl) (fun hc97 => ?_) (fun hc97 => ?_)
              · have hj93 := cond_t hc97 hj93
                refine gl_pure 2 [4, 6, 7, 12, 13, 14, 37, 38, 39] (K' := [(4, .slice A18 s14.1.length n19), (6, .slice A51 x43.length n52), (7, .int .i64 r58), (12, .slice A0_0 a0.length n0_0), (13, .int .i64 (a0.length : Int)), (14, .int .i64 s14.2), (37, .bool true), (38, .slice A18 s14.1.length n19), (39, .int .i64 r58)]) (by kernel_rfl) ?_
                obtain ⟨x98, hx99, hj93⟩ := bind_some hj93
                refine gl_indexAddrW (d := (Kd.sl kS50)) (c := n19) (T' := 22) (e := 39) (xs := (.tmp 38)) (xi := (.tmp 39)) (kd := .i64) hx99 (hO21.mono hI66) (Upd.selfC _ _) (by kernel_rfl) (by kernel_rfl) (by kernel_rfl) (by kernel_rfl) (by kernel_rfl) (fun p100 cs101 hR102 hA103 hp109 => ?_)
                obtain ⟨A106, n107, rfl, hf108⟩ := sl_open hR102
                refine gl_loadO (T' := 39) (xp := (.tmp 40)) (p := p100) (c := .slice A106 x98.length n107) (n := 1) (by kernel_rfl) (by kernel_rfl) (by kernel_rfl) (by kernel_rfl) hA103 ?_
                refine gl_pure 1 [4, 6, 7, 12, 13, 14, 37, 41, 42] (K' := [(4, .slice A18 s14.1.length n19), (6, .slice A51 x43.length n52), (7, .int .i64 r58), (12, .slice A0_0 a0.length n0_0), (13, .int .i64 (a0.length : Int)), (14, .int .i64 s14.2), (37, .bool true), (41, .slice A106 x98.length n107), (42, .slice A51 x43.length n52)]) (by kernel_rfl) ?_
                obtain ⟨y110, hx111, hj93⟩ := bind_some hj93
                refine gl_callQ (by kernel_rfl) (tocsinref04_Same_walk (r := y110) hf108 (hf53.mono hI66) hx111 _) ?_
                refine gl_pure 1 [4, 6, 7, 12, 13, 14, 44] (K' := [(4, .slice A18 s14.1.length n19), (6, .slice A51 x43.length n52), (7, .int .i64 r58), (12, .slice A0_0 a0.length n0_0), (13, .int .i64 (a0.length : Int)), (14, .int .i64 s14.2), (44, .bool y110)]) (by kernel_rfl) ?_
                refine gl_atE (by kernel_rfl) ?_
                obtain rfl := some_inj hj93
                exact ge_mid fun t ht => ⟨(Imm.refl _), rfl, ht.pick (l := [4, 6, 7, 12, 13, 14, 44]) (by kernel_rfl)⟩
              · have hj93 := cond_f hc97 hj93
                refine gl_pure 7 [4, 6, 7, 12, 13, 14, 44] (K' := [(4, .slice A18 s14.1.length n19), (6, .slice A51 x43.length n52), (7, .int .i64 r58), (12, .slice A0_0 a0.length n0_0), (13, .int .i64 (a0.length : Int)), (14, .int .i64 s14.2), (44, .bool false)]) (by kernel_rfl) ?_
                refine gl_atE (by kernel_rfl) ?_
                obtain rfl := some_inj hj93
                exact ge_mid fun t ht => ⟨(Imm.refl _), rfl, ht.pick (l := [4, 6, 7, 12, 13, 14, 44]) (by kernel_rfl)⟩
            · rintro t I96 L' ⟨hI94, rfl, hK95⟩
              refine ge_at hK95 ?_
              refine ge_seq ?_
              refine gk_cond (b := j92) (by kernel_rfl) (by kernel_rfl) (fun hc112 => ?_) (fun hc112 => ?_)
              · have hj35 := cond_t hc112 hj35
                refine gk_exit (by kernel_rfl) ?_
                refine ge_seq_exit ?_
                refine ge_block_hit (by kernel_rfl) ?_
                obtain rfl := some_inj hj35
                exact ge_mid fun t ht => ⟨A18, n19, C20, (hO21.mono (Imm.trans hI66 hI94)), (Imm.trans hI66 hI94), rfl, ht.pick (l := [4, 12, 13, 14]) (by kernel_rfl)⟩
              · have hj35 := cond_f hc112 hj35
                refine gk_skip (by kernel_rfl) ?_
                refine ge_seq ?_
                refine gk_seq (by kernel_rfl) ?_
                refine gk_region (by kernel_rfl) ?_
                refine gl_pure 1 [4, 6, 7, 8, 12, 13, 14] (K' := [(4, .slice A18 s14.1.length n19), (6, .slice A51 x43.length n52), (7, .int .i64 r58), (8, .slice none 0 0), (12, .slice A0_0 a0.length n0_0), (13, .int .i64 (a0.length : Int)), (14, .int .i64 s14.2)]) (by kernel_rfl) ?_
                refine gl_atE (by kernel_rfl) ?_
                refine ge_seq ?_
                refine gk_seq (by kernel_rfl) ?_
                refine gk_region (by kernel_rfl) ?_
                refine gl_pure 3 [4, 6, 7, 12, 13, 14, 45, 46, 47] (K' := [(4, .slice A18 s14.1.length n19), (6, .slice A51 x43.length n52), (7, .int .i64 r58), (12, .slice A0_0 a0.length n0_0), (13, .int .i64 (a0.length : Int)), (14, .int .i64 s14.2), (45, .slice none 0 0), (46, .slice A18 s14.1.length n19), (47, .int .i64 r58)]) (by kernel_rfl) ?_
                obtain ⟨l114, hx113, hj35⟩ := bind_some hj35
                have hlc115 := OwnS.lenc (hO21.mono (Imm.trans hI66 hI94))
                have hd116 := lx_take hx113
                refine gl_sliceH (A := A18) (c := n19) (n := 1) (T' := 22) (e := 39) (xs := (.tmp 46)) (lo := none) (hi := (some (.tmp 47))) hx113 hlc115 (by kernel_rfl) (by kernel_rfl) (by kernel_rfl) (by kernel_rfl) (by kernel_rfl) (by kernel_rfl) ?_
                obtain ⟨zs117, hz118, hj35⟩ := bind_some hj35
                refine gl_append (xv := .slice A18 l114.length n19) (d := (Kd.sl kS50)) (t := 22) (tx := 22) (e := 39) (s := (.tmp 45)) (x := (.tmp 48)) (xs := []) (A := none) (c := 0) (C := []) (fun X => X ++ (C20 ++ L)) hz118 (by kernel_rfl) (by kernel_rfl) (by kernel_rfl) (by kernel_rfl) (by kernel_rfl) (by kernel_rfl) (fun X => Upd.new X _) (OwnS.nil _ _ _ none) (SrcOk.slice (c := n19) (e := 39) (n := 1) (OwnS.rd (OwnS.head hd116 (hO21.mono (Imm.trans hI66 hI94))) (Upd.selfC _ _)) (by kernel_rfl)) (fun A119 n120 C121 hO122 => ?_)
                refine gl_pure 1 [4, 6, 7, 8, 12, 13, 14] (K' := [(4, .slice A18 s14.1.length n19), (6, .slice A51 x43.length n52), (7, .int .i64 r58), (8, .slice A119 zs117.length n120), (12, .slice A0_0 a0.length n0_0), (13, .int .i64 (a0.length : Int)), (14, .int .i64 s14.2)]) (by kernel_rfl) ?_
                refine gl_atE (by kernel_rfl) ?_
                refine ge_seq ?_
                refine gk_seq (by kernel_rfl) ?_
                refine gk_region (by kernel_rfl) ?_
                refine gl_pure 2 [4, 7, 12, 13, 14, 50, 51] (K' := [(4, .slice A18 s14.1.length n19), (7, .int .i64 r58), (12, .slice A0_0 a0.length n0_0), (13, .int .i64 (a0.length : Int)), (14, .int .i64 s14.2), (50, .slice A119 zs117.length n120), (51, .slice A51 x43.length n52)]) (by kernel_rfl) ?_
                refine gl_buildSlice (T' := 22) (e := 39) (n := 1) (len := 1) (parts := #[(0, (.tmp 51))]) (l := [(0, .slice A51 x43.length n52)]) (cs := #[.slice A51 x43.length n52]) (by kernel_rfl) (by kernel_rfl) (by kernel_rfl) (by kernel_rfl) (by kernel_rfl) (fun g123 => ?_)
                have hO124 : OwnS (Kd.sl kS50) 39 I96 (some ⟨g123, 0, none⟩) 1 [x43] [(g123, .cells #[.slice A51 x43.length n52] 39)] := OwnS.lit (row_cons (l := [.slice A51 x43.length n52]) ⟨_, _, rfl, (hf53.mono (Imm.trans hI66 hI94))⟩ (row_nil _ _)) rfl rfl rfl
                refine gl_reord (D := [(g123, .cells #[.slice A51 x43.length n52] 39)] ++ (C121 ++ (C20 ++ L))) (Reord.refl _) ?_
                obtain ⟨zs127, hz128, hj35⟩ := bind_some hj35
                refine gl_append (xv := .slice (some ⟨g123, 0, none⟩) [x43].length 1) (d := (Kd.sl kS50)) (t := 22) (tx := 22) (e := 39) (s := (.tmp 50)) (x := (.tmp 52)) (xs := zs117) (fun X => [(g123, .cells #[.slice A51 x43.length n52] 39)] ++ (X ++ (C20 ++ L))) hz128 (by kernel_rfl) (by kernel_rfl) (by kernel_rfl) (by kernel_rfl) (by kernel_rfl) (by kernel_rfl) (fun X => (Upd.app _ (Upd.head _ X _))) hO122 (SrcOk.slice (c := 1) (e := 39) (n := 1) (OwnS.rd hO124 (Upd.selfC _ _)) (by kernel_rfl)) (fun A129 n130 C131 hO132 => ?_)
                refine gl_pure 1 [4, 7, 8, 12, 13, 14] (K' := [(4, .slice A18 s14.1.length n19), (7, .int .i64 r58), (8, .slice A129 zs127.length n130), (12, .slice A0_0 a0.length n0_0), (13, .int .i64 (a0.length : Int)), (14, .int .i64 s14.2)]) (by kernel_rfl) ?_
                refine gl_atE (by kernel_rfl) ?_
                refine ge_seq ?_
                refine gk_seq (by kernel_rfl) ?_
                refine gk_region (by kernel_rfl) ?_
                refine gl_pure 3 [12, 13, 14, 54, 55, 56] (K' := [(12, .slice A0_0 a0.length n0_0), (13, .int .i64 (a0.length : Int)), (14, .int .i64 s14.2), (54, .slice A129 zs127.length n130), (55, .slice A18 s14.1.length n19), (56, .int .i64 r58)]) (by kernel_rfl) ?_
                obtain ⟨l134, hx133, hj35⟩ := bind_some hj35
                have hlc135 := OwnS.lenc (hO21.mono (Imm.trans hI66 hI94))
                have hV136 := OwnS.view hx133 (hO21.mono (Imm.trans hI66 hI94))
                refine gl_sliceT (A := A18) (c := n19) (n := 1) (T' := 22) (e := 39) (xs := (.tmp 55)) (lo := (some (.tmp 56))) hx133 hlc135 (by kernel_rfl) (by kernel_rfl) (by kernel_rfl) (by kernel_rfl) (by kernel_rfl) ?_
                obtain ⟨zs137, hz138, hj35⟩ := bind_some hj35
                refine gl_append (xv := .slice (viewA A18 r58 1 n19) l134.length (n19 - (r58).toNat)) (d := (Kd.sl kS50)) (t := 22) (tx := 22) (e := 39) (s := (.tmp 54)) (x := (.tmp 57)) (xs := zs127) (fun X => [(g123, .cells #[.slice A51 x43.length n52] 39)] ++ (X ++ (C20 ++ L))) hz138 (by kernel_rfl) (by kernel_rfl) (by kernel_rfl) (by kernel_rfl) (by kernel_rfl) (by kernel_rfl) (fun X => (Upd.app _ (Upd.head _ X _))) hO132 (SrcOk.slice (c := (n19 - (r58).toNat)) (e := 39) (n := 1) (OwnS.rdT hx133 hV136 (hO21.mono (Imm.trans hI66 hI94)) (Upd.app _ (Upd.app _ (Upd.selfC _ _)))) (by kernel_rfl)) (fun A139 n140 C141 hO142 => ?_)
                refine gl_pure 1 [8, 12, 13, 14] (K' := [(8, .slice A139 zs137.length n140), (12, .slice A0_0 a0.length n0_0), (13, .int .i64 (a0.length : Int)), (14, .int .i64 s14.2)]) (by kernel_rfl) ?_
                refine gl_atE (by kernel_rfl) ?_
                refine ge_seq ?_
                refine gk_region (by kernel_rfl) ?_
                refine gl_pure 2 [4, 12, 13, 14] (K' := [(4, .slice A139 zs137.length n140), (12, .slice A0_0 a0.length n0_0), (13, .int .i64 (a0.length : Int)), (14, .int .i64 s14.2)]) (by kernel_rfl) ?_
                refine gl_reord (D := C141 ++ L) (Reord.step (Upd.app _ (Upd.rmC _ _)) (Reord.skipC (Reord.skipC (Reord.refl _)))) ?_
                refine gl_atE (by kernel_rfl) ?_
                refine ge_block_normal ?_
                obtain rfl := some_inj hj35
                exact ge_mid fun t ht => ⟨A139, n140, C141, hO142, (Imm.trans hI66 hI94), rfl, ht.pick (l := [4, 12, 13, 14]) (by kernel_rfl)⟩
        · rintro t I42 L' ⟨A37, n38, C39, hO40, hI36, rfl, hK41⟩
          refine ge_at hK41 ?_
          refine ge_seq ?_
          refine gk_region (by kernel_rfl) ?_
          refine gl_pure 2 [4, 12, 13, 14] (K' := [(4, .slice A37 j34.length n38), (12, .slice A0_0 a0.length n0_0), (13, .int .i64 (a0.length : Int)), (14, .int .i64 (IntKind.wrap .i64 (s14.2 + 1)))]) (by kernel_rfl) ?_
          refine gl_atE (by kernel_rfl) ?_
          obtain rfl := some_inj hb16
          exact ge_round fun t ht => ⟨A37, n38, C39, hO40, (Imm.trans hI17 hI36), rfl, ht.pick (l := [4, 12, 13, 14]) (by kernel_rfl)⟩
      · have hb16 := cond_f hc33 hb16
        refine gk_exit (by kernel_rfl) ?_
        refine ge_seq_exit ?_
        obtain rfl := some_inj hb16
        refine ge_round_out (fun hrr => ?_) (by intro h; cases h)
        obtain rfl := hrr
        refine ge_block_hit (by kernel_rfl) ?_
        exact ge_mid fun t ht => ⟨A18, n19, C20, hO21, hI17, rfl, ht.pick (l := [4]) (by kernel_rfl)⟩
    · rintro t I30 L' ⟨A25, n26, C27, hO28, hI24, rfl, hK29⟩
      refine ge_at hK29 ?_
      refine ge_seq ?_
      refine gk_seq (by kernel_rfl) ?_
      refine gk_region (by kernel_rfl) ?_
      refine gl_pure 3 [2, 3] (K' := [(2, .slice A25 r12.length n26), (3, .int .i64 0)]) (by kernel_rfl) ?_
      refine gl_atE (by kernel_rfl) ?_
      refine ge_seq ?_
      refine gk_ret (by kernel_rfl) ?_
      obtain rfl := some_inj hr
      exact ge_result trivial (ResOk.tmp (by kernel_rfl) (ResOk.tmp (by kernel_rfl) ResOk.nil)) hI24 ⟨A25, n26, C27, hO28, rfl, rfl⟩
end Go.Proofs.YtcnnbaneoehilaaDoor
