import Derived.Test.YtjkkmbjkndageaaDoorF1a
set_option linter.unusedVariables false
set_option linter.unusedSimpArgs false
set_option maxRecDepth 100000
namespace Go.Proofs.YtjkkmbjkndageaaDoor
open Go.GB
/-! 68 slices_CompareFunc  -/
noncomputable def slices_CompareFunc_l17 (a0 : List S53) (a1 : List S53) (a2 : S53 → S53 → Option Int) : Int → Option ((Int) ⊕ ((Unit) ⊕ (Int))) := fun s7 =>
  bif (decide (s7 < (a0.length : Int))) then
  (Option.bind (ix a0 s7) fun (x20 : S53) =>
    bif (decide (s7 ≥ (a1.length : Int))) then
    (some (Sum.inr (Sum.inr 1)))
    else
    (Option.bind (ix a1 s7) fun (x30 : S53) =>
      Option.bind (a2 x20 x30) fun (y40 : Int) =>
      bif (y40 != 0) then
      (some (Sum.inr (Sum.inr y40)))
      else
      (some (Sum.inl (IntKind.wrap .i64 (s7 + 1))))))
  else
  (some (Sum.inr (Sum.inl ())))
noncomputable def slices_CompareFunc (a0 : List S53) (a1 : List S53) (a2 : S53 → S53 → Option Int) : Option Int :=
  Option.bind (loopO (slices_CompareFunc_l17 a0 a1 a2) 0) fun (r5 : (Unit) ⊕ (Int)) =>
  match r5 with
  | Sum.inl r13 => bif (decide ((a0.length : Int) < (a1.length : Int))) then
    (some (-1))
    else
    (some 0)
  | Sum.inr v43 => some v43
theorem slices_CompareFunc_walk {a0 : List S53} {A0_0 : Option Addr} {n0_0 : Nat} {a1 : List S53} {A1_0 : Option Addr} {n1_0 : Nat} {a2 : S53 → S53 → Option Int} {fv2 : Value} {I : Imm} {r : Int}  (hf0_0 : RepS kS53 I A0_0 n0_0 a0)  (hf1_0 : RepS kS53 I A1_0 n1_0 a1) (hf2 : Fn103 I fv2 a2) (hr : slices_CompareFunc a0 a1 a2 = some r) (L : Own) :
    CallsTo Tryd.prog 68 #[.slice A0_0 a0.length n0_0, .slice A1_0 a1.length n1_0, fv2] I L (fun v I' L' => v = .int .i64 r ∧ L = L') := by
  unfold slices_CompareFunc at hr
  refine callsTo_body (N := 39) Tryd.func68 (by kernel_rfl) (by kernel_rfl) (by kernel_rfl) ?_
  refine gk_pick [0, 1, 2] (K' := [(0, .slice A0_0 a0.length n0_0), (1, .slice A1_0 a1.length n1_0), (2, fv2)]) (by kernel_rfl) ?_
  refine gk_seq (by kernel_rfl) ?_
  refine gk_region (by kernel_rfl) ?_
  refine gl_pure 1 [0, 1, 2] (K' := [(0, .slice A0_0 a0.length n0_0), (1, .slice A1_0 a1.length n1_0), (2, fv2)]) (by kernel_rfl) ?_
  refine gl_atE (by kernel_rfl) ?_
  refine ge_seq ?_
  refine gk_seq (by kernel_rfl) ?_
  refine gk_seq (by kernel_rfl) ?_
  refine gk_region (by kernel_rfl) ?_
  refine gl_pure 3 [0, 1, 2, 11, 12, 13] (K' := [(0, .slice A0_0 a0.length n0_0), (1, .slice A1_0 a1.length n1_0), (2, fv2), (11, .slice A0_0 a0.length n0_0), (12, .int .i64 (a0.length : Int)), (13, .int .i64 0)]) (by kernel_rfl) ?_
  refine gl_atE (by kernel_rfl) ?_
  refine ge_seq ?_
  obtain ⟨r5, hl6, hr⟩ := bind_some hr
  refine gk_join (fun t I' L' => ∃ r13, r5 = Sum.inl r13 ∧ I ≤ I' ∧ L = L' ∧ Knows 39 [(0, .slice A0_0 a0.length n0_0), (1, .slice A1_0 a1.length n1_0)] t) ?_ ?_
  · refine gk_block (by kernel_rfl) ?_
    refine gk_pick [0, 1, 2, 11, 12, 13] (K' := [(0, .slice A0_0 a0.length n0_0), (1, .slice A1_0 a1.length n1_0), (2, fv2), (11, .slice A0_0 a0.length n0_0), (12, .int .i64 (a0.length : Int)), (13, .int .i64 0)]) (by kernel_rfl) ?_
    intro t hK
    refine gc_loop (slices_CompareFunc_l17 a0 a1 a2) (fun s7 t I' L' => I ≤ I' ∧ L = L' ∧ Knows 39 [(0, .slice A0_0 a0.length n0_0), (1, .slice A1_0 a1.length n1_0), (2, fv2), (11, .slice A0_0 a0.length n0_0), (12, .int .i64 (a0.length : Int)), (13, .int .i64 s7)] t) (by kernel_rfl) ?_ hl6 ⟨(Imm.refl _), rfl, hK⟩
    rintro s7 o8 t I12 L' hb9 ⟨hI10, rfl, hK11⟩
    unfold slices_CompareFunc_l17 at hb9
    refine gk_at hK11 ?_
    refine gk_seq (by kernel_rfl) ?_
    refine gk_region (by kernel_rfl) ?_
    refine gl_pure 1 [0, 1, 2, 11, 12, 13, 14] (K' := [(0, .slice A0_0 a0.length n0_0), (1, .slice A1_0 a1.length n1_0), (2, fv2), (11, .slice A0_0 a0.length n0_0), (12, .int .i64 (a0.length : Int)), (13, .int .i64 s7), (14, .bool (decide (s7 < (a0.length : Int))))]) (by kernel_rfl) ?_
    refine gl_atE (by kernel_rfl) ?_
    refine ge_seq ?_
    refine gk_seq (by kernel_rfl) ?_
    refine gk_cond (b := (decide (s7 < (a0.length : Int)))) (by kernel_rfl) (by kernel_rfl) (fun hc19 => ?_) (fun hc19 => ?_)
    · have hb9 := cond_t hc19 hb9
      refine gk_skip (by kernel_rfl) ?_
      refine ge_seq ?_
      refine gk_seq (by kernel_rfl) ?_
      refine gk_block (by kernel_rfl) ?_
      refine gk_seq (by kernel_rfl) ?_
      refine gk_region (by kernel_rfl) ?_
      refine gl_pure 1 [0, 1, 2, 11, 12, 13, 15] (K' := [(0, .slice A0_0 a0.length n0_0), (1, .slice A1_0 a1.length n1_0), (2, fv2), (11, .slice A0_0 a0.length n0_0), (12, .int .i64 (a0.length : Int)), (13, .int .i64 s7), (15, .int .i64 s7)]) (by kernel_rfl) ?_
      obtain ⟨x20, hx21, hb9⟩ := bind_some hb9
      obtain ⟨p22, cs23, hR24, hA25, ha26⟩ := RepS.ixAt hx21 (hf0_0.mono hI10)
      have hi27 := ix_some hx21
      obtain rfl := kS53_open hR24
      refine gl_indexAddrF (c := n0_0) (T' := 25) (e := 54) (xs := (.tmp 11)) (xi := (.tmp 13)) (kd := .i64) ha26 hi27.1 hi27.2.1 (by kernel_rfl) (by kernel_rfl) (by kernel_rfl) (by kernel_rfl) (by kernel_rfl) ?_
      refine gl_loadA (T' := 54) (xp := (.tmp 16)) (p := p22) (cs := [.string x20.f0, .string x20.f1]) (by kernel_rfl) (by kernel_rfl) (by kernel_rfl) (by kernel_rfl) (hA25.take 2) ?_
      refine gl_alloc (T' := 54) (cs := #[.string (⟨#[]⟩ : ByteArray), .string (⟨#[]⟩ : ByteArray)]) (by kernel_rfl) (by kernel_rfl) (by kernel_rfl) (fun g28 => ?_)
      refine gl_pure 1 [0, 1, 2, 7, 8, 11, 12, 13, 17] (K' := [(0, .slice A0_0 a0.length n0_0), (1, .slice A1_0 a1.length n1_0), (2, fv2), (7, .int .i64 s7), (8, .pointer (some ⟨g28, 0, none⟩)), (11, .slice A0_0 a0.length n0_0), (12, .int .i64 (a0.length : Int)), (13, .int .i64 s7), (17, .agg #[.string x20.f0, .string x20.f1])]) (by kernel_rfl) ?_
      refine gl_storeB (T' := 54) (xp := (.tmp 8)) (xv := (.tmp 17)) (v := .agg #[.string x20.f0, .string x20.f1]) (g := g28) (off := 0) (cs := #[.string (⟨#[]⟩ : ByteArray), .string (⟨#[]⟩ : ByteArray)]) (cs' := #[.string x20.f0, .string x20.f1]) (by kernel_rfl) (by kernel_rfl) (by kernel_rfl) (by kernel_rfl) (by kernel_rfl) (Upd.set _ _ _ _) ?_ (by kernel_rfl)
      refine gl_atE (by kernel_rfl) ?_
      refine ge_seq ?_
      refine gk_seq (by kernel_rfl) ?_
      refine gk_seq (by kernel_rfl) ?_
      refine gk_region (by kernel_rfl) ?_
      refine gl_pure 4 [0, 1, 2, 7, 8, 11, 12, 13, 21] (K' := [(0, .slice A0_0 a0.length n0_0), (1, .slice A1_0 a1.length n1_0), (2, fv2), (7, .int .i64 s7), (8, .pointer (some ⟨g28, 0, none⟩)), (11, .slice A0_0 a0.length n0_0), (12, .int .i64 (a0.length : Int)), (13, .int .i64 s7), (21, .bool (decide (s7 ≥ (a1.length : Int))))]) (by kernel_rfl) ?_
      refine gl_atE (by kernel_rfl) ?_
      refine ge_seq ?_
      refine gk_cond (b := (decide (s7 ≥ (a1.length : Int)))) (by kernel_rfl) (by kernel_rfl) (fun hc29 => ?_) (fun hc29 => ?_)
      · have hb9 := cond_t hc29 hb9
        refine gk_seq (by kernel_rfl) ?_
        refine gk_region (by kernel_rfl) ?_
        refine gl_pure 1 [6] (K' := [(6, .int .i64 1)]) (by kernel_rfl) ?_
        refine gl_atE (by kernel_rfl) ?_
        refine ge_seq ?_
        refine gk_reord (D := L) (Reord.skip (Reord.refl _)) ?_
        refine gk_ret (by kernel_rfl) ?_
        refine ge_seq_ret ?_
        refine ge_block_ret ?_
        refine ge_seq_ret ?_
        obtain rfl := some_inj hb9
        refine ge_round_out (fun hrr => ?_) (by intro h; cases h)
        obtain rfl := hrr
        refine ge_block_ret ?_
        refine ge_seq_ret ?_
        refine ge_seq_ret ?_
        obtain rfl := some_inj hr
        exact ge_result trivial (ResOk.tmp (by kernel_rfl) ResOk.nil) hI10 ⟨rfl, rfl⟩
      · have hb9 := cond_f hc29 hb9
        refine gk_skip (by kernel_rfl) ?_
        refine ge_seq ?_
        refine gk_seq (by kernel_rfl) ?_
        refine gk_region (by kernel_rfl) ?_
        refine gl_pure 2 [0, 1, 2, 8, 11, 12, 13, 22, 23] (K' := [(0, .slice A0_0 a0.length n0_0), (1, .slice A1_0 a1.length n1_0), (2, fv2), (8, .pointer (some ⟨g28, 0, none⟩)), (11, .slice A0_0 a0.length n0_0), (12, .int .i64 (a0.length : Int)), (13, .int .i64 s7), (22, .slice A1_0 a1.length n1_0), (23, .int .i64 s7)]) (by kernel_rfl) ?_
        obtain ⟨x30, hx31, hb9⟩ := bind_some hb9
        obtain ⟨p32, cs33, hR34, hA35, ha36⟩ := RepS.ixAt hx31 (hf1_0.mono hI10)
        have hi37 := ix_some hx31
        obtain rfl := kS53_open hR34
        refine gl_indexAddrF (c := n1_0) (T' := 25) (e := 54) (xs := (.tmp 22)) (xi := (.tmp 23)) (kd := .i64) ha36 hi37.1 hi37.2.1 (by kernel_rfl) (by kernel_rfl) (by kernel_rfl) (by kernel_rfl) (by kernel_rfl) ?_
        refine gl_loadA (T' := 54) (xp := (.tmp 24)) (p := p32) (cs := [.string x30.f0, .string x30.f1]) (by kernel_rfl) (by kernel_rfl) (by kernel_rfl) (by kernel_rfl) (hA35.take 2) ?_
        refine gl_alloc (T' := 54) (cs := #[.string (⟨#[]⟩ : ByteArray), .string (⟨#[]⟩ : ByteArray)]) (by kernel_rfl) (by kernel_rfl) (by kernel_rfl) (fun g38 => ?_)
        refine gl_storeB (T' := 54) (xp := (.tmp 9)) (xv := (.tmp 25)) (v := .agg #[.string x30.f0, .string x30.f1]) (g := g38) (off := 0) (cs := #[.string (⟨#[]⟩ : ByteArray), .string (⟨#[]⟩ : ByteArray)]) (cs' := #[.string x30.f0, .string x30.f1]) (by kernel_rfl) (by kernel_rfl) (by kernel_rfl) (by kernel_rfl) (by kernel_rfl) (Upd.set _ _ _ _) ?_ (by kernel_rfl)
        refine gl_atE (by kernel_rfl) ?_
        refine ge_seq ?_
        refine gk_seq (by kernel_rfl) ?_
        refine gk_region (by kernel_rfl) ?_
        refine gl_pure 1 [0, 1, 2, 8, 9, 11, 12, 13, 26] (K' := [(0, .slice A0_0 a0.length n0_0), (1, .slice A1_0 a1.length n1_0), (2, fv2), (8, .pointer (some ⟨g28, 0, none⟩)), (9, .pointer (some ⟨g38, 0, none⟩)), (11, .slice A0_0 a0.length n0_0), (12, .int .i64 (a0.length : Int)), (13, .int .i64 s7), (26, fv2)]) (by kernel_rfl) ?_
        refine gl_loadB (T' := 54) (xp := (.tmp 8)) (v := .agg #[.string x20.f0, .string x20.f1]) (g := g28) (off := 0) (cs := #[.string x20.f0, .string x20.f1]) (e := 54) (fz := (0, 0)) (by kernel_rfl) (by kernel_rfl) (by kernel_rfl) (List.mem_cons_of_mem _ List.mem_cons_self) (by kernel_rfl) ?_
        refine gl_loadB (T' := 54) (xp := (.tmp 9)) (v := .agg #[.string x30.f0, .string x30.f1]) (g := g38) (off := 0) (cs := #[.string x30.f0, .string x30.f1]) (e := 54) (fz := (0, 0)) (by kernel_rfl) (by kernel_rfl) (by kernel_rfl) List.mem_cons_self (by kernel_rfl) ?_
        obtain ⟨y40, hx39, hb9⟩ := bind_some hb9
        refine gl_callvQ (by kernel_rfl) ((hf2.mono hI10).out _ (Imm.refl _) _ _ _ hx39   _) ?_
        refine gl_pure 1 [0, 1, 2, 10, 11, 12, 13] (K' := [(0, .slice A0_0 a0.length n0_0), (1, .slice A1_0 a1.length n1_0), (2, fv2), (10, .int .i64 y40), (11, .slice A0_0 a0.length n0_0), (12, .int .i64 (a0.length : Int)), (13, .int .i64 s7)]) (by kernel_rfl) ?_
        refine gl_atE (by kernel_rfl) ?_
        refine ge_seq ?_
        refine gk_seq (by kernel_rfl) ?_
        refine gk_region (by kernel_rfl) ?_
        refine gl_pure 2 [0, 1, 2, 10, 11, 12, 13, 31] (K' := [(0, .slice A0_0 a0.length n0_0), (1, .slice A1_0 a1.length n1_0), (2, fv2), (10, .int .i64 y40), (11, .slice A0_0 a0.length n0_0), (12, .int .i64 (a0.length : Int)), (13, .int .i64 s7), (31, .bool (y40 != 0))]) (by kernel_rfl) ?_
        refine gl_atE (by kernel_rfl) ?_
        refine ge_seq ?_
        refine gk_cond (b := (y40 != 0)) (by kernel_rfl) (by kernel_rfl) (fun hc41 => ?_) (fun hc41 => ?_)
        · have hb9 := cond_t hc41 hb9
          refine gk_seq (by kernel_rfl) ?_
          refine gk_region (by kernel_rfl) ?_
          refine gl_pure 2 [6] (K' := [(6, .int .i64 y40)]) (by kernel_rfl) ?_
          refine gl_atE (by kernel_rfl) ?_
          refine ge_seq ?_
          refine gk_reord (D := L) (Reord.skip (Reord.skip (Reord.refl _))) ?_
          refine gk_ret (by kernel_rfl) ?_
          refine ge_block_ret ?_
          refine ge_seq_ret ?_
          obtain rfl := some_inj hb9
          refine ge_round_out (fun hrr => ?_) (by intro h; cases h)
          obtain rfl := hrr
          refine ge_block_ret ?_
          refine ge_seq_ret ?_
          refine ge_seq_ret ?_
          obtain rfl := some_inj hr
          exact ge_result trivial (ResOk.tmp (by kernel_rfl) ResOk.nil) hI10 ⟨rfl, rfl⟩
        · have hb9 := cond_f hc41 hb9
          refine gk_skip (by kernel_rfl) ?_
          refine ge_block_normal ?_
          refine ge_seq ?_
          refine gk_region (by kernel_rfl) ?_
          refine gl_pure 2 [0, 1, 2, 11, 12, 13] (K' := [(0, .slice A0_0 a0.length n0_0), (1, .slice A1_0 a1.length n1_0), (2, fv2), (11, .slice A0_0 a0.length n0_0), (12, .int .i64 (a0.length : Int)), (13, .int .i64 (IntKind.wrap .i64 (s7 + 1)))]) (by kernel_rfl) ?_
          refine gl_reord (D := L) (Reord.skip (Reord.skip (Reord.refl _))) ?_
          refine gl_atE (by kernel_rfl) ?_
          obtain rfl := some_inj hb9
          exact ge_round fun t ht => ⟨hI10, rfl, ht.pick (l := [0, 1, 2, 11, 12, 13]) (by kernel_rfl)⟩
    · have hb9 := cond_f hc19 hb9
      refine gk_exit (by kernel_rfl) ?_
      refine ge_seq_exit ?_
      obtain rfl := some_inj hb9
      refine ge_round_out (fun hrr => ?_) (by intro h; cases h)
      obtain rfl := hrr
      refine ge_block_hit (by kernel_rfl) ?_
      exact ge_mid fun t ht => ⟨_, rfl, hI10, rfl, ht.pick (l := [0, 1]) (by kernel_rfl)⟩
  · rintro t I16 L' ⟨r13, rfl, hI14, rfl, hK15⟩
    refine ge_at hK15 ?_
    refine ge_seq ?_
    refine gk_seq (by kernel_rfl) ?_
    refine gk_seq (by kernel_rfl) ?_
    refine gk_region (by kernel_rfl) ?_
    refine gl_pure 5 [38] (K' := [(38, .bool (decide ((a0.length : Int) < (a1.length : Int))))]) (by kernel_rfl) ?_
    refine gl_atE (by kernel_rfl) ?_
    refine ge_seq ?_
    refine gk_cond (b := (decide ((a0.length : Int) < (a1.length : Int)))) (by kernel_rfl) (by kernel_rfl) (fun hc42 => ?_) (fun hc42 => ?_)
    · have hr := cond_t hc42 hr
      refine gk_seq (by kernel_rfl) ?_
      refine gk_region (by kernel_rfl) ?_
      refine gl_pure 1 [6] (K' := [(6, .int .i64 (-1))]) (by kernel_rfl) ?_
      refine gl_atE (by kernel_rfl) ?_
      refine ge_seq ?_
      refine gk_ret (by kernel_rfl) ?_
      refine ge_seq_ret ?_
      obtain rfl := some_inj hr
      exact ge_result trivial (ResOk.tmp (by kernel_rfl) ResOk.nil) hI14 ⟨rfl, rfl⟩
    · have hr := cond_f hc42 hr
      refine gk_skip (by kernel_rfl) ?_
      refine ge_seq ?_
      refine gk_seq (by kernel_rfl) ?_
      refine gk_region (by kernel_rfl) ?_
      refine gl_pure 1 [6] (K' := [(6, .int .i64 0)]) (by kernel_rfl) ?_
      refine gl_atE (by kernel_rfl) ?_
      refine ge_seq ?_
      refine gk_ret (by kernel_rfl) ?_
      obtain rfl := some_inj hr
      exact ge_result trivial (ResOk.tmp (by kernel_rfl) ResOk.nil) hI14 ⟨rfl, rfl⟩
/-! 77 bytealg_CompareString  -/
noncomputable def bytealg_CompareString (a0 : ByteArray) (a1 : ByteArray) : Int :=
  (Lib.compareBytes a0.data.toList a1.data.toList)
theorem bytealg_CompareString_walk {a0 : ByteArray} {a1 : ByteArray} {I : Imm} {r : Int}  (hr : bytealg_CompareString a0 a1 = r) (L : Own) :
    CallsTo Tryd.prog 77 #[.string a0, .string a1] I L (fun v I' L' => v = .int .i64 r ∧ L = L') := by
  replace hr : some (bytealg_CompareString a0 a1) = some r := congrArg some hr
  unfold bytealg_CompareString at hr
  refine callsTo_body (N := 8) Tryd.func77 (by kernel_rfl) (by kernel_rfl) (by kernel_rfl) ?_
  refine gk_pick [0, 1] (K' := [(0, .string a0), (1, .string a1)]) (by kernel_rfl) ?_
  refine gk_seq (by kernel_rfl) ?_
  refine gk_region (by kernel_rfl) ?_
  refine gl_pure 1 [0, 1] (K' := [(0, .string a0), (1, .string a1)]) (by kernel_rfl) ?_
  refine gl_atE (by kernel_rfl) ?_
  refine ge_seq ?_
  refine gk_seq (by kernel_rfl) ?_
  refine gk_region (by kernel_rfl) ?_
  refine gl_pure 2 [5, 6] (K' := [(5, .string a0), (6, .string a1)]) (by kernel_rfl) ?_
  refine gl_cmpstring (a := a0) (b := a1) Tryd.func83 (by kernel_rfl) (by kernel_rfl) (by kernel_rfl) (by kernel_rfl) (by kernel_rfl) (by kernel_rfl) ?_
  refine gl_pure 1 [4] (K' := [(4, .int .i64 (Lib.compareBytes a0.data.toList a1.data.toList))]) (by kernel_rfl) ?_
  refine gl_atE (by kernel_rfl) ?_
  refine ge_seq ?_
  refine gk_ret (by kernel_rfl) ?_
  obtain rfl := some_inj hr
  exact ge_result trivial (ResOk.tmp (by kernel_rfl) ResOk.nil) (Imm.refl _) ⟨rfl, rfl⟩
/-! 70 strings_Compare  -/
noncomputable def strings_Compare (a0 : ByteArray) (a1 : ByteArray) : Int :=
  (bytealg_CompareString a0 a1)
theorem strings_Compare_walk {a0 : ByteArray} {a1 : ByteArray} {I : Imm} {r : Int}  (hr : strings_Compare a0 a1 = r) (L : Own) :
    CallsTo Tryd.prog 70 #[.string a0, .string a1] I L (fun v I' L' => v = .int .i64 r ∧ L = L') := by
  replace hr : some (strings_Compare a0 a1) = some r := congrArg some hr
  unfold strings_Compare at hr
  refine callsTo_body (N := 8) Tryd.func70 (by kernel_rfl) (by kernel_rfl) (by kernel_rfl) ?_
  refine gk_pick [0, 1] (K' := [(0, .string a0), (1, .string a1)]) (by kernel_rfl) ?_
  refine gk_seq (by kernel_rfl) ?_
  refine gk_region (by kernel_rfl) ?_
  refine gl_pure 1 [0, 1] (K' := [(0, .string a0), (1, .string a1)]) (by kernel_rfl) ?_
  refine gl_atE (by kernel_rfl) ?_
  refine ge_seq ?_
  refine gk_seq (by kernel_rfl) ?_
  refine gk_region (by kernel_rfl) ?_
  refine gl_pure 2 [5, 6] (K' := [(5, .string a0), (6, .string a1)]) (by kernel_rfl) ?_
  refine gl_callQ (by kernel_rfl) (bytealg_CompareString_walk (r := (bytealg_CompareString a0 a1))  rfl _) ?_
  refine gl_pure 1 [4] (K' := [(4, .int .i64 (bytealg_CompareString a0 a1))]) (by kernel_rfl) ?_
  refine gl_atE (by kernel_rfl) ?_
  refine ge_seq ?_
  refine gk_ret (by kernel_rfl) ?_
  obtain rfl := some_inj hr
  exact ge_result trivial (ResOk.tmp (by kernel_rfl) ResOk.nil) (Imm.refl _) ⟨rfl, rfl⟩
/-! 69 labels_Compare_1  -/
noncomputable def labels_Compare_1 (a0 : S53) (a1 : S53) : Int :=
  bif ((strings_Compare a0.f0 a1.f0) != 0) then
  ((strings_Compare a0.f0 a1.f0))
  else
  ((strings_Compare a0.f1 a1.f1))
theorem labels_Compare_1_walk {a0 : S53} {a1 : S53} {I : Imm} {r : Int}  (hr : labels_Compare_1 a0 a1 = r) (L : Own) :
    CallsTo Tryd.prog 69 #[.agg #[.string a0.f0, .string a0.f1], .agg #[.string a1.f0, .string a1.f1]] I L (fun v I' L' => v = .int .i64 r ∧ L = L') := by
  replace hr : some (labels_Compare_1 a0 a1) = some r := congrArg some hr
  unfold labels_Compare_1 at hr
  refine callsTo_body (N := 19) Tryd.func69 (by kernel_rfl) (by kernel_rfl) (by kernel_rfl) ?_
  refine gk_pick [0, 1] (K' := [(0, .agg #[.string a0.f0, .string a0.f1]), (1, .agg #[.string a1.f0, .string a1.f1])]) (by kernel_rfl) ?_
  refine gk_seq (by kernel_rfl) ?_
  refine gk_region (by kernel_rfl) ?_
  refine gl_box (T' := 54) (x := (.tmp 0)) (v := .agg #[.string a0.f0, .string a0.f1]) (cs := #[.string a0.f0, .string a0.f1]) (by kernel_rfl) (by kernel_rfl) (by kernel_rfl) (by kernel_rfl) (fun gb1 => ?_)
  refine gl_box (T' := 54) (x := (.tmp 1)) (v := .agg #[.string a1.f0, .string a1.f1]) (cs := #[.string a1.f0, .string a1.f1]) (by kernel_rfl) (by kernel_rfl) (by kernel_rfl) (by kernel_rfl) (fun g2 => ?_)
  refine gl_pure 1 [2, 3] (K' := [(2, .pointer (some ⟨gb1, 0, none⟩)), (3, .pointer (some ⟨g2, 0, none⟩))]) (by kernel_rfl) ?_
  refine gl_atE (by kernel_rfl) ?_
  refine ge_seq ?_
  refine gk_seq (by kernel_rfl) ?_
  refine gk_seq (by kernel_rfl) ?_
  refine gk_region (by kernel_rfl) ?_
  refine gl_pure 1 [2, 3, 6] (K' := [(2, .pointer (some ⟨gb1, 0, none⟩)), (3, .pointer (some ⟨g2, 0, none⟩)), (6, .pointer (some ⟨gb1, 0, none⟩))]) (by kernel_rfl) ?_
  refine gl_loadB (T' := 9) (xp := (.tmp 6)) (v := .string a0.f0) (g := gb1) (off := 0) (cs := #[.string a0.f0, .string a0.f1]) (e := 54) (fz := (0, 0)) (by kernel_rfl) (by kernel_rfl) (by kernel_rfl) (List.mem_cons_of_mem _ List.mem_cons_self) (by kernel_rfl) ?_
  refine gl_pure 1 [2, 3, 7, 8] (K' := [(2, .pointer (some ⟨gb1, 0, none⟩)), (3, .pointer (some ⟨g2, 0, none⟩)), (7, .string a0.f0), (8, .pointer (some ⟨g2, 0, none⟩))]) (by kernel_rfl) ?_
  refine gl_loadB (T' := 9) (xp := (.tmp 8)) (v := .string a1.f0) (g := g2) (off := 0) (cs := #[.string a1.f0, .string a1.f1]) (e := 54) (fz := (0, 0)) (by kernel_rfl) (by kernel_rfl) (by kernel_rfl) List.mem_cons_self (by kernel_rfl) ?_
  refine gl_callQ (by kernel_rfl) (strings_Compare_walk (r := (strings_Compare a0.f0 a1.f0))  rfl _) ?_
  refine gl_pure 1 [2, 3, 5] (K' := [(2, .pointer (some ⟨gb1, 0, none⟩)), (3, .pointer (some ⟨g2, 0, none⟩)), (5, .int .i64 (strings_Compare a0.f0 a1.f0))]) (by kernel_rfl) ?_
  refine gl_atE (by kernel_rfl) ?_
  refine ge_seq ?_
  refine gk_seq (by kernel_rfl) ?_
  refine gk_region (by kernel_rfl) ?_
  refine gl_pure 2 [2, 3, 5, 12] (K' := [(2, .pointer (some ⟨gb1, 0, none⟩)), (3, .pointer (some ⟨g2, 0, none⟩)), (5, .int .i64 (strings_Compare a0.f0 a1.f0)), (12, .bool ((strings_Compare a0.f0 a1.f0) != 0))]) (by kernel_rfl) ?_
  refine gl_atE (by kernel_rfl) ?_
  refine ge_seq ?_
  refine gk_cond (b := ((strings_Compare a0.f0 a1.f0) != 0)) (by kernel_rfl) (by kernel_rfl) (fun hc3 => ?_) (fun hc3 => ?_)
  · have hr := scond_t hc3 hr
    refine gk_seq (by kernel_rfl) ?_
    refine gk_region (by kernel_rfl) ?_
    refine gl_pure 2 [4] (K' := [(4, .int .i64 (strings_Compare a0.f0 a1.f0))]) (by kernel_rfl) ?_
    refine gl_atE (by kernel_rfl) ?_
    refine ge_seq ?_
    refine gk_reord (D := L) (Reord.skip (Reord.skip (Reord.refl _))) ?_
    refine gk_ret (by kernel_rfl) ?_
    refine ge_seq_ret ?_
    obtain rfl := some_inj hr
    exact ge_result trivial (ResOk.tmp (by kernel_rfl) ResOk.nil) (Imm.refl _) ⟨rfl, rfl⟩
  · have hr := scond_f hc3 hr
    refine gk_skip (by kernel_rfl) ?_
    refine ge_seq ?_
    refine gk_seq (by kernel_rfl) ?_
    refine gk_region (by kernel_rfl) ?_
    refine gl_pure 1 [3, 14] (K' := [(3, .pointer (some ⟨g2, 0, none⟩)), (14, .pointer (some ⟨gb1, 1, none⟩))]) (by kernel_rfl) ?_
    refine gl_loadB (T' := 9) (xp := (.tmp 14)) (v := .string a0.f1) (g := gb1) (off := 1) (cs := #[.string a0.f0, .string a0.f1]) (e := 54) (fz := (0, 0)) (by kernel_rfl) (by kernel_rfl) (by kernel_rfl) (List.mem_cons_of_mem _ List.mem_cons_self) (by kernel_rfl) ?_
    refine gl_pure 1 [15, 16] (K' := [(15, .string a0.f1), (16, .pointer (some ⟨g2, 1, none⟩))]) (by kernel_rfl) ?_
    refine gl_loadB (T' := 9) (xp := (.tmp 16)) (v := .string a1.f1) (g := g2) (off := 1) (cs := #[.string a1.f0, .string a1.f1]) (e := 54) (fz := (0, 0)) (by kernel_rfl) (by kernel_rfl) (by kernel_rfl) List.mem_cons_self (by kernel_rfl) ?_
    refine gl_callQ (by kernel_rfl) (strings_Compare_walk (r := (strings_Compare a0.f1 a1.f1))  rfl _) ?_
    refine gl_pure 1 [4] (K' := [(4, .int .i64 (strings_Compare a0.f1 a1.f1))]) (by kernel_rfl) ?_
    refine gl_atE (by kernel_rfl) ?_
    refine ge_seq ?_
    refine gk_reord (D := L) (Reord.skip (Reord.skip (Reord.refl _))) ?_
    refine gk_ret (by kernel_rfl) ?_
    obtain rfl := some_inj hr
    exact ge_result trivial (ResOk.tmp (by kernel_rfl) ResOk.nil) (Imm.refl _) ⟨rfl, rfl⟩
theorem labels_Compare_1_impl103  {I : Imm}  : Fn103 I (.func (.func 69) #[] #[]) (fun x0 x1 => some (labels_Compare_1 x0 x1)) := ⟨fun I' hI x0 x1 r hr  L => ⟨69, #[], #[], rfl, ⟨_, Tryd.func69, by kernel_rfl, by kernel_rfl⟩, by
  simp only [List.append_toArray, List.nil_append, List.append_nil, Array.append_empty, Array.empty_append, List.push_append_toArray, List.cons_append]
  exact labels_Compare_1_walk    (some_inj hr) L⟩⟩
/-! 51 labels_Compare  -/
noncomputable def labels_Compare (a0 : List S53) (a1 : List S53) : Option Int :=
  Option.bind (slices_CompareFunc a0 a1 (fun x0 x1 => some (labels_Compare_1 x0 x1))) fun (y1 : Int) =>
  some y1
theorem labels_Compare_walk {a0 : List S53} {A0_0 : Option Addr} {n0_0 : Nat} {a1 : List S53} {A1_0 : Option Addr} {n1_0 : Nat} {I : Imm} {r : Int}  (hf0_0 : RepS kS53 I A0_0 n0_0 a0)  (hf1_0 : RepS kS53 I A1_0 n1_0 a1) (hr : labels_Compare a0 a1 = some r) (L : Own) :
    CallsTo Tryd.prog 51 #[.slice A0_0 a0.length n0_0, .slice A1_0 a1.length n1_0] I L (fun v I' L' => v = .int .i64 r ∧ L = L') := by
  unfold labels_Compare at hr
  refine callsTo_body (N := 8) Tryd.func51 (by kernel_rfl) (by kernel_rfl) (by kernel_rfl) ?_
  refine gk_pick [0, 1] (K' := [(0, .slice A0_0 a0.length n0_0), (1, .slice A1_0 a1.length n1_0)]) (by kernel_rfl) ?_
  refine gk_seq (by kernel_rfl) ?_
  refine gk_region (by kernel_rfl) ?_
  refine gl_pure 1 [0, 1] (K' := [(0, .slice A0_0 a0.length n0_0), (1, .slice A1_0 a1.length n1_0)]) (by kernel_rfl) ?_
  refine gl_atE (by kernel_rfl) ?_
  refine ge_seq ?_
  refine gk_seq (by kernel_rfl) ?_
  refine gk_region (by kernel_rfl) ?_
  refine gl_pure 2 [5, 6] (K' := [(5, .slice A0_0 a0.length n0_0), (6, .slice A1_0 a1.length n1_0)]) (by kernel_rfl) ?_
  obtain ⟨y1, hx2, hr⟩ := bind_some hr
  refine gl_callQ (by kernel_rfl) (slices_CompareFunc_walk (r := y1) hf0_0 hf1_0 labels_Compare_1_impl103 hx2 _) ?_
  refine gl_pure 1 [4] (K' := [(4, .int .i64 y1)]) (by kernel_rfl) ?_
  refine gl_atE (by kernel_rfl) ?_
  refine ge_seq ?_
  refine gk_ret (by kernel_rfl) ?_
  obtain rfl := some_inj hr
  exact ge_result trivial (ResOk.tmp (by kernel_rfl) ResOk.nil) (Imm.refl _) ⟨rfl, rfl⟩
/-! 33 nflog_rising  -/
noncomputable def nflog_rising_l17 (a0 : List (List S53)) : Int → Option ((Int) ⊕ ((Unit) ⊕ (Bool))) := fun s7 =>
  bif (decide (s7 < (a0.length : Int))) then
  (Option.bind (ix a0 s7) fun (x20 : List S53) =>
    Option.bind (labels_Right x20) fun (y31 : Int × Int) =>
    Option.bind (bif (y31.1 != 0) then
      (some true)
      else
      (bif (decide (s7 > 0)) then
        (Option.bind (ix a0 (IntKind.wrap .i64 (s7 - 1))) fun (x40 : List S53) =>
          Option.bind (labels_Compare x40 x20) fun (y51 : Int) =>
          some (decide (y51 ≥ 0)))
        else
        (some false))) fun (j33 : Bool) =>
    bif j33 then
    (some (Sum.inr (Sum.inr false)))
    else
    (some (Sum.inl (IntKind.wrap .i64 (s7 + 1)))))
  else
  (some (Sum.inr (Sum.inl ())))
noncomputable def nflog_rising (a0 : List (List S53)) : Option Bool :=
  Option.bind (loopO (nflog_rising_l17 a0) 0) fun (r5 : (Unit) ⊕ (Bool)) =>
  match r5 with
  | Sum.inl r13 => some true
  | Sum.inr v54 => some v54
theorem nflog_rising_walk {a0 : List (List S53)} {A0_0 : Option Addr} {n0_0 : Nat} {I : Imm} {r : Bool} (hG : Gl I)  (hf0_0 : RepS (Kd.sl kS53) I A0_0 n0_0 a0) (hr : nflog_rising a0 = some r) (L : Own) :
    CallsTo Tryd.prog 33 #[.slice A0_0 a0.length n0_0] I L (fun v I' L' => v = .bool r ∧ L = L') := by
  unfold nflog_rising at hr
  refine callsTo_body (N := 36) Tryd.func33 (by kernel_rfl) (by kernel_rfl) (by kernel_rfl) ?_
  refine gk_pick [0] (K' := [(0, .slice A0_0 a0.length n0_0)]) (by kernel_rfl) ?_
  refine gk_seq (by kernel_rfl) ?_
  refine gk_region (by kernel_rfl) ?_
  refine gl_pure 1 [0] (K' := [(0, .slice A0_0 a0.length n0_0)]) (by kernel_rfl) ?_
  refine gl_atE (by kernel_rfl) ?_
  refine ge_seq ?_
  refine gk_seq (by kernel_rfl) ?_
  refine gk_seq (by kernel_rfl) ?_
  refine gk_region (by kernel_rfl) ?_
  refine gl_pure 3 [0, 7, 8, 9] (K' := [(0, .slice A0_0 a0.length n0_0), (7, .slice A0_0 a0.length n0_0), (8, .int .i64 (a0.length : Int)), (9, .int .i64 0)]) (by kernel_rfl) ?_
  refine gl_atE (by kernel_rfl) ?_
  refine ge_seq ?_
  obtain ⟨r5, hl6, hr⟩ := bind_some hr
  refine gk_join (fun t I' L' => ∃ r13, r5 = Sum.inl r13 ∧ I ≤ I' ∧ L = L' ∧ Knows 36 [] t) ?_ ?_
  · refine gk_block (by kernel_rfl) ?_
    refine gk_pick [0, 7, 8, 9] (K' := [(0, .slice A0_0 a0.length n0_0), (7, .slice A0_0 a0.length n0_0), (8, .int .i64 (a0.length : Int)), (9, .int .i64 0)]) (by kernel_rfl) ?_
    intro t hK
    refine gc_loop (nflog_rising_l17 a0) (fun s7 t I' L' => I ≤ I' ∧ L = L' ∧ Knows 36 [(0, .slice A0_0 a0.length n0_0), (7, .slice A0_0 a0.length n0_0), (8, .int .i64 (a0.length : Int)), (9, .int .i64 s7)] t) (by kernel_rfl) ?_ hl6 ⟨(Imm.refl _), rfl, hK⟩
    rintro s7 o8 t I12 L' hb9 ⟨hI10, rfl, hK11⟩
    unfold nflog_rising_l17 at hb9
    refine gk_at hK11 ?_
    refine gk_seq (by kernel_rfl) ?_
    refine gk_region (by kernel_rfl) ?_
    refine gl_pure 1 [0, 7, 8, 9, 10] (K' := [(0, .slice A0_0 a0.length n0_0), (7, .slice A0_0 a0.length n0_0), (8, .int .i64 (a0.length : Int)), (9, .int .i64 s7), (10, .bool (decide (s7 < (a0.length : Int))))]) (by kernel_rfl) ?_
    refine gl_atE (by kernel_rfl) ?_
    refine ge_seq ?_
    refine gk_seq (by kernel_rfl) ?_
    refine gk_cond (b := (decide (s7 < (a0.length : Int)))) (by kernel_rfl) (by kernel_rfl) (fun hc19 => ?_) (fun hc19 => ?_)
    · have hb9 := cond_t hc19 hb9
      refine gk_skip (by kernel_rfl) ?_
      refine ge_seq ?_
      refine gk_seq (by kernel_rfl) ?_
      refine gk_block (by kernel_rfl) ?_
      refine gk_seq (by kernel_rfl) ?_
      refine gk_region (by kernel_rfl) ?_
      refine gl_pure 1 [0, 7, 8, 9, 11] (K' := [(0, .slice A0_0 a0.length n0_0), (7, .slice A0_0 a0.length n0_0), (8, .int .i64 (a0.length : Int)), (9, .int .i64 s7), (11, .int .i64 s7)]) (by kernel_rfl) ?_
      obtain ⟨x20, hx21, hb9⟩ := bind_some hb9
      obtain ⟨p22, cs23, hR24, hA25, ha26⟩ := RepS.ixAt hx21 (hf0_0.mono hI10)
      have hi27 := ix_some hx21
      obtain ⟨A28, n29, rfl, hf30⟩ := sl_open hR24
      refine gl_indexAddrF (c := n0_0) (T' := 22) (e := 25) (xs := (.tmp 7)) (xi := (.tmp 9)) (kd := .i64) ha26 hi27.1 hi27.2.1 (by kernel_rfl) (by kernel_rfl) (by kernel_rfl) (by kernel_rfl) (by kernel_rfl) ?_
      refine gl_load (T' := 25) (xp := (.tmp 12)) (p := p22) (c := .slice A28 x20.length n29) (n := 1) (by kernel_rfl) (by kernel_rfl) (by kernel_rfl) (by kernel_rfl) hA25 ?_
      refine gl_pure 2 [0, 3, 4, 7, 8, 9] (K' := [(0, .slice A0_0 a0.length n0_0), (3, .int .i64 s7), (4, .slice A28 x20.length n29), (7, .slice A0_0 a0.length n0_0), (8, .int .i64 (a0.length : Int)), (9, .int .i64 s7)]) (by kernel_rfl) ?_
      refine gl_atE (by kernel_rfl) ?_
      refine ge_seq ?_
      refine gk_seq (by kernel_rfl) ?_
      refine gk_region (by kernel_rfl) ?_
      refine gl_pure 1 [0, 3, 4, 7, 8, 9, 15] (K' := [(0, .slice A0_0 a0.length n0_0), (3, .int .i64 s7), (4, .slice A28 x20.length n29), (7, .slice A0_0 a0.length n0_0), (8, .int .i64 (a0.length : Int)), (9, .int .i64 s7), (15, .slice A28 x20.length n29)]) (by kernel_rfl) ?_
      obtain ⟨y31, hx32, hb9⟩ := bind_some hb9
      refine gl_callQ (by kernel_rfl) (labels_Right_walk (r := y31) (hG.mono hI10) hf30 hx32 _) ?_
      refine gl_pure 5 [0, 3, 4, 5, 7, 8, 9] (K' := [(0, .slice A0_0 a0.length n0_0), (3, .int .i64 s7), (4, .slice A28 x20.length n29), (5, .int .i64 y31.1), (7, .slice A0_0 a0.length n0_0), (8, .int .i64 (a0.length : Int)), (9, .int .i64 s7)]) (by kernel_rfl) ?_
      refine gl_atE (by kernel_rfl) ?_
      refine ge_seq ?_
      refine gk_seq (by kernel_rfl) ?_
      obtain ⟨j33, hj34, hb9⟩ := bind_some hb9
      refine gk_join (fun t I' L' => I12 ≤ I' ∧ L = L' ∧ Knows 36 [(0, .slice A0_0 a0.length n0_0), (7, .slice A0_0 a0.length n0_0), (8, .int .i64 (a0.length : Int)), (9, .int .i64 s7), (34, .bool j33)] t) ?_ ?_
      · refine gk_region (by kernel_rfl) ?_
        refine gl_pure 3 [0, 3, 4, 7, 8, 9, 21] (K' := [(0, .slice A0_0 a0.length n0_0), (3, .int .i64 s7), (4, .slice A28 x20.length n29), (7, .slice A0_0 a0.length n0_0), (8, .int .i64 (a0.length : Int)), (9, .int .i64 s7), (21, .bool (y31.1 != 0))]) (by kernel_rfl) ?_
        refine gl_case 21 (b := (y31.1 != 0)) (by kernel_rfl) (fun hc38 => ?_) (fun hc38 => ?_)
        · have hj34 := cond_t hc38 hj34
          refine gl_pure 13 [0, 7, 8, 9, 34] (K' := [(0, .slice A0_0 a0.length n0_0), (7, .slice A0_0 a0.length n0_0), (8, .int .i64 (a0.length : Int)), (9, .int .i64 s7), (34, .bool true)]) (by kernel_rfl) ?_
          refine gl_atE (by kernel_rfl) ?_
          obtain rfl := some_inj hj34
          exact ge_mid fun t ht => ⟨(Imm.refl _), rfl, ht.pick (l := [0, 7, 8, 9, 34]) (by kernel_rfl)⟩
        · have hj34 := cond_f hc38 hj34
          refine gl_pure 3 [0, 3, 4, 7, 8, 9, 21, 24] (K' := [(0, .slice A0_0 a0.length n0_0), (3, .int .i64 s7), (4, .slice A28 x20.length n29), (7, .slice A0_0 a0.length n0_0), (8, .int .i64 (a0.length : Int)), (9, .int .i64 s7), (21, .bool false), (24, .bool (decide (s7 > 0)))]) (by kernel_rfl) ?_
          refine gl_case 24 (b := (decide (s7 > 0))) (by kernel_rfl) (fun hc39 => ?_) (fun hc39 => ?_)
          · have hj34 := cond_t hc39 hj34
            refine gl_pure 3 [0, 4, 7, 8, 9, 21, 24, 25, 27] (K' := [(0, .slice A0_0 a0.length n0_0), (4, .slice A28 x20.length n29), (7, .slice A0_0 a0.length n0_0), (8, .int .i64 (a0.length : Int)), (9, .int .i64 s7), (21, .bool false), (24, .bool true), (25, .slice A0_0 a0.length n0_0), (27, .int .i64 (IntKind.wrap .i64 (s7 - 1)))]) (by kernel_rfl) ?_
            obtain ⟨x40, hx41, hj34⟩ := bind_some hj34
            obtain ⟨p42, cs43, hR44, hA45, ha46⟩ := RepS.ixAt hx41 (hf0_0.mono hI10)
            have hi47 := ix_some hx41
            obtain ⟨A48, n49, rfl, hf50⟩ := sl_open hR44
            refine gl_indexAddrF (c := n0_0) (T' := 22) (e := 25) (xs := (.tmp 25)) (xi := (.tmp 27)) (kd := .i64) ha46 hi47.1 hi47.2.1 (by kernel_rfl) (by kernel_rfl) (by kernel_rfl) (by kernel_rfl) (by kernel_rfl) ?_
            refine gl_load (T' := 25) (xp := (.tmp 28)) (p := p42) (c := .slice A48 x40.length n49) (n := 1) (by kernel_rfl) (by kernel_rfl) (by kernel_rfl) (by kernel_rfl) hA45 ?_
            refine gl_pure 1 [0, 7, 8, 9, 21, 24, 29, 30] (K' := [(0, .slice A0_0 a0.length n0_0), (7, .slice A0_0 a0.length n0_0), (8, .int .i64 (a0.length : Int)), (9, .int .i64 s7), (21, .bool false), (24, .bool true), (29, .slice A48 x40.length n49), (30, .slice A28 x20.length n29)]) (by kernel_rfl) ?_
            obtain ⟨y51, hx52, hj34⟩ := bind_some hj34
            refine gl_callQ (by kernel_rfl) (labels_Compare_walk (r := y51) hf50 hf30 hx52 _) ?_
            refine gl_pure 3 [0, 7, 8, 9, 34] (K' := [(0, .slice A0_0 a0.length n0_0), (7, .slice A0_0 a0.length n0_0), (8, .int .i64 (a0.length : Int)), (9, .int .i64 s7), (34, .bool (decide (y51 ≥ 0)))]) (by kernel_rfl) ?_
            refine gl_atE (by kernel_rfl) ?_
            obtain rfl := some_inj hj34
            exact ge_mid fun t ht => ⟨(Imm.refl _), rfl, ht.pick (l := [0, 7, 8, 9, 34]) (by kernel_rfl)⟩
          · have hj34 := cond_f hc39 hj34
            refine gl_pure 10 [0, 7, 8, 9, 34] (K' := [(0, .slice A0_0 a0.length n0_0), (7, .slice A0_0 a0.length n0_0), (8, .int .i64 (a0.length : Int)), (9, .int .i64 s7), (34, .bool false)]) (by kernel_rfl) ?_
            refine gl_atE (by kernel_rfl) ?_
            obtain rfl := some_inj hj34
            exact ge_mid fun t ht => ⟨(Imm.refl _), rfl, ht.pick (l := [0, 7, 8, 9, 34]) (by kernel_rfl)⟩
      · rintro t I37 L' ⟨hI35, rfl, hK36⟩
        refine ge_at hK36 ?_
        refine ge_seq ?_
        refine gk_cond (b := j33) (by kernel_rfl) (by kernel_rfl) (fun hc53 => ?_) (fun hc53 => ?_)
        · have hb9 := cond_t hc53 hb9
          refine gk_seq (by kernel_rfl) ?_
          refine gk_region (by kernel_rfl) ?_
          refine gl_pure 1 [2] (K' := [(2, .bool false)]) (by kernel_rfl) ?_
          refine gl_atE (by kernel_rfl) ?_
          refine ge_seq ?_
          refine gk_ret (by kernel_rfl) ?_
          refine ge_block_ret ?_
          refine ge_seq_ret ?_
          obtain rfl := some_inj hb9
          refine ge_round_out (fun hrr => ?_) (by intro h; cases h)
          obtain rfl := hrr
          refine ge_block_ret ?_
          refine ge_seq_ret ?_
          refine ge_seq_ret ?_
          obtain rfl := some_inj hr
          exact ge_result trivial (ResOk.tmp (by kernel_rfl) ResOk.nil) (Imm.trans hI10 hI35) ⟨rfl, rfl⟩
        · have hb9 := cond_f hc53 hb9
          refine gk_skip (by kernel_rfl) ?_
          refine ge_block_normal ?_
          refine ge_seq ?_
          refine gk_region (by kernel_rfl) ?_
          refine gl_pure 2 [0, 7, 8, 9] (K' := [(0, .slice A0_0 a0.length n0_0), (7, .slice A0_0 a0.length n0_0), (8, .int .i64 (a0.length : Int)), (9, .int .i64 (IntKind.wrap .i64 (s7 + 1)))]) (by kernel_rfl) ?_
          refine gl_atE (by kernel_rfl) ?_
          obtain rfl := some_inj hb9
          exact ge_round fun t ht => ⟨(Imm.trans hI10 hI35), rfl, ht.pick (l := [0, 7, 8, 9]) (by kernel_rfl)⟩
    · have hb9 := cond_f hc19 hb9
      refine gk_exit (by kernel_rfl) ?_
      refine ge_seq_exit ?_
      obtain rfl := some_inj hb9
      refine ge_round_out (fun hrr => ?_) (by intro h; cases h)
      obtain rfl := hrr
      refine ge_block_hit (by kernel_rfl) ?_
      exact ge_mid fun t ht => ⟨_, rfl, hI10, rfl, ht.pick (l := []) (by kernel_rfl)⟩
  · rintro t I16 L' ⟨r13, rfl, hI14, rfl, hK15⟩
    refine ge_at hK15 ?_
    refine ge_seq ?_
    refine gk_seq (by kernel_rfl) ?_
    refine gk_region (by kernel_rfl) ?_
    refine gl_pure 1 [2] (K' := [(2, .bool true)]) (by kernel_rfl) ?_
    refine gl_atE (by kernel_rfl) ?_
    refine ge_seq ?_
    refine gk_ret (by kernel_rfl) ?_
    obtain rfl := some_inj hr
    exact ge_result trivial (ResOk.tmp (by kernel_rfl) ResOk.nil) hI14 ⟨rfl, rfl⟩
/-! 15 nflog_Right  -/
noncomputable def nflog_Right (a0 : S23) : Option Int :=
  Option.bind (nflog_text a0.f0 64) fun (y2 : Bool) =>
  bif (!y2) then
  (some 204)
  else
  (Option.bind (nflog_text a0.f1 65536) fun (y5 : Bool) =>
    bif (!y5) then
    (some 40)
    else
    (bif ((decide (a0.f2 < 0)) || (decide (a0.f2 > 1125899906842624))) then
      (some 1)
      else
      (bif ((decide ((a0.f3.length : Int) > 500)) || (decide ((a0.f4.length : Int) > 500))) then
        (some 8)
        else
        (Option.bind (Option.bind (nflog_rising a0.f3) fun (y27 : Bool) =>
            bif (!y27) then
            (some true)
            else
            (Option.bind (nflog_rising a0.f4) fun (y30 : Bool) =>
              some (!y30))) fun (j22 : Bool) =>
          bif j22 then
          (some 41)
          else
          (some 0)))))
theorem nflog_Right_walk {a0 : S23} {A0_3 : Option Addr} {n0_3 : Nat} {A0_4 : Option Addr} {n0_4 : Nat} {I : Imm} {r : Int} (hG : Gl I)  (hf0_3 : RepS (Kd.sl kS53) I A0_3 n0_3 a0.f3) (hf0_4 : RepS (Kd.sl kS53) I A0_4 n0_4 a0.f4) (hr : nflog_Right a0 = some r) (L : Own) :
    CallsTo Tryd.prog 15 #[.agg #[.string a0.f0, .string a0.f1, .int .i64 a0.f2, .slice A0_3 a0.f3.length n0_3, .slice A0_4 a0.f4.length n0_4]] I L (fun v I' L' => v = .int .i64 r ∧ L = L') := by
  unfold nflog_Right at hr
  refine callsTo_body (N := 44) Tryd.func15 (by kernel_rfl) (by kernel_rfl) (by kernel_rfl) ?_
  refine gk_pick [0] (K' := [(0, .agg #[.string a0.f0, .string a0.f1, .int .i64 a0.f2, .slice A0_3 a0.f3.length n0_3, .slice A0_4 a0.f4.length n0_4])]) (by kernel_rfl) ?_
  refine gk_seq (by kernel_rfl) ?_
  refine gk_region (by kernel_rfl) ?_
  refine gl_box (T' := 24) (x := (.tmp 0)) (v := .agg #[.string a0.f0, .string a0.f1, .int .i64 a0.f2, .slice A0_3 a0.f3.length n0_3, .slice A0_4 a0.f4.length n0_4]) (cs := #[.string a0.f0, .string a0.f1, .int .i64 a0.f2, .slice A0_3 a0.f3.length n0_3, .slice A0_4 a0.f4.length n0_4]) (by kernel_rfl) (by kernel_rfl) (by kernel_rfl) (by kernel_rfl) (fun g1 => ?_)
  refine gl_pure 1 [1] (K' := [(1, .pointer (some ⟨g1, 0, none⟩))]) (by kernel_rfl) ?_
  refine gl_atE (by kernel_rfl) ?_
  refine ge_seq ?_
  refine gk_seq (by kernel_rfl) ?_
  refine gk_block (by kernel_rfl) ?_
  refine gk_seq (by kernel_rfl) ?_
  refine gk_region (by kernel_rfl) ?_
  refine gl_pure 1 [1, 4] (K' := [(1, .pointer (some ⟨g1, 0, none⟩)), (4, .pointer (some ⟨g1, 0, none⟩))]) (by kernel_rfl) ?_
  refine gl_loadB (T' := 9) (xp := (.tmp 4)) (v := .string a0.f0) (g := g1) (off := 0) (cs := #[.string a0.f0, .string a0.f1, .int .i64 a0.f2, .slice A0_3 a0.f3.length n0_3, .slice A0_4 a0.f4.length n0_4]) (e := 24) (fz := (0, 0)) (by kernel_rfl) (by kernel_rfl) (by kernel_rfl) List.mem_cons_self (by kernel_rfl) ?_
  obtain ⟨y2, hx3, hr⟩ := bind_some hr
  refine gl_callQ (by kernel_rfl) (nflog_text_walk (r := y2) hG hx3 _) ?_
  refine gl_pure 2 [1, 3] (K' := [(1, .pointer (some ⟨g1, 0, none⟩)), (3, .bool (!y2))]) (by kernel_rfl) ?_
  refine gl_atE (by kernel_rfl) ?_
  refine ge_seq ?_
  refine gk_cond (b := (!y2)) (by kernel_rfl) (by kernel_rfl) (fun hc4 => ?_) (fun hc4 => ?_)
  · have hr := cond_t hc4 hr
    refine gk_seq (by kernel_rfl) ?_
    refine gk_region (by kernel_rfl) ?_
    refine gl_pure 1 [2] (K' := [(2, .int .i64 204)]) (by kernel_rfl) ?_
    refine gl_atE (by kernel_rfl) ?_
    refine ge_seq ?_
    refine gk_reord (D := L) (Reord.skip (Reord.refl _)) ?_
    refine gk_ret (by kernel_rfl) ?_
    refine ge_block_ret ?_
    refine ge_seq_ret ?_
    obtain rfl := some_inj hr
    exact ge_result trivial (ResOk.tmp (by kernel_rfl) ResOk.nil) (Imm.refl _) ⟨rfl, rfl⟩
  · have hr := cond_f hc4 hr
    refine gk_seq (by kernel_rfl) ?_
    refine gk_region (by kernel_rfl) ?_
    refine gl_pure 1 [1, 9] (K' := [(1, .pointer (some ⟨g1, 0, none⟩)), (9, .pointer (some ⟨g1, 1, none⟩))]) (by kernel_rfl) ?_
    refine gl_loadB (T' := 9) (xp := (.tmp 9)) (v := .string a0.f1) (g := g1) (off := 1) (cs := #[.string a0.f0, .string a0.f1, .int .i64 a0.f2, .slice A0_3 a0.f3.length n0_3, .slice A0_4 a0.f4.length n0_4]) (e := 24) (fz := (0, 0)) (by kernel_rfl) (by kernel_rfl) (by kernel_rfl) List.mem_cons_self (by kernel_rfl) ?_
    obtain ⟨y5, hx6, hr⟩ := bind_some hr
    refine gl_callQ (by kernel_rfl) (nflog_text_walk (r := y5) hG hx6 _) ?_
    refine gl_pure 2 [1, 8] (K' := [(1, .pointer (some ⟨g1, 0, none⟩)), (8, .bool (!y5))]) (by kernel_rfl) ?_
    refine gl_atE (by kernel_rfl) ?_
    refine ge_seq ?_
    refine gk_cond (b := (!y5)) (by kernel_rfl) (by kernel_rfl) (fun hc7 => ?_) (fun hc7 => ?_)
    · have hr := cond_t hc7 hr
      refine gk_seq (by kernel_rfl) ?_
      refine gk_region (by kernel_rfl) ?_
      refine gl_pure 1 [2] (K' := [(2, .int .i64 40)]) (by kernel_rfl) ?_
      refine gl_atE (by kernel_rfl) ?_
      refine ge_seq ?_
      refine gk_reord (D := L) (Reord.skip (Reord.refl _)) ?_
      refine gk_ret (by kernel_rfl) ?_
      refine ge_block_ret ?_
      refine ge_seq_ret ?_
      obtain rfl := some_inj hr
      exact ge_result trivial (ResOk.tmp (by kernel_rfl) ResOk.nil) (Imm.refl _) ⟨rfl, rfl⟩
    · have hr := cond_f hc7 hr
      refine gk_seq (by kernel_rfl) ?_
      obtain ⟨b10, hb11⟩ : ∃ z, z = ((decide (a0.f2 < 0)) || (decide (a0.f2 > 1125899906842624))) := ⟨_, rfl⟩
      refine gk_join (fun t I' L' => I ≤ I' ∧ (g1, .cells #[.string a0.f0, .string a0.f1, .int .i64 a0.f2, .slice A0_3 a0.f3.length n0_3, .slice A0_4 a0.f4.length n0_4] 24) :: L = L' ∧ Knows 44 [(1, .pointer (some ⟨g1, 0, none⟩)), (13, .bool b10)] t) ?_ ?_
      · refine gk_region (by kernel_rfl) ?_
        refine gl_pure 1 [1, 14] (K' := [(1, .pointer (some ⟨g1, 0, none⟩)), (14, .pointer (some ⟨g1, 2, none⟩))]) (by kernel_rfl) ?_
        refine gl_loadB (T' := 2) (xp := (.tmp 14)) (v := .int .i64 a0.f2) (g := g1) (off := 2) (cs := #[.string a0.f0, .string a0.f1, .int .i64 a0.f2, .slice A0_3 a0.f3.length n0_3, .slice A0_4 a0.f4.length n0_4]) (e := 24) (fz := (0, 0)) (by kernel_rfl) (by kernel_rfl) (by kernel_rfl) List.mem_cons_self (by kernel_rfl) ?_
        refine gl_pure 2 [1, 17] (K' := [(1, .pointer (some ⟨g1, 0, none⟩)), (17, .bool (decide (a0.f2 < 0)))]) (by kernel_rfl) ?_
        refine gl_case 17 (b := (decide (a0.f2 < 0))) (by kernel_rfl) (fun hc13 => ?_) (fun hc13 => ?_)
        · refine gl_pure 5 [1, 13] (K' := [(1, .pointer (some ⟨g1, 0, none⟩)), (13, .bool true)]) (by kernel_rfl) ?_
          refine gl_atE (by kernel_rfl) ?_
          exact ge_mid fun t ht => ⟨(Imm.refl _), rfl, by rw [(show b10 = true from hb11.trans (by first | (rw [hc13]; done) | (rw [hc13]; rfl) | (simp [hc13]; done) | (simp only [hc13]; rfl) | (simp at *; omega)))]; exact ht.pick (l := [1, 13]) (by kernel_rfl)⟩
        · refine gl_pure 1 [1, 17, 18] (K' := [(1, .pointer (some ⟨g1, 0, none⟩)), (17, .bool false), (18, .pointer (some ⟨g1, 2, none⟩))]) (by kernel_rfl) ?_
          refine gl_loadB (T' := 2) (xp := (.tmp 18)) (v := .int .i64 a0.f2) (g := g1) (off := 2) (cs := #[.string a0.f0, .string a0.f1, .int .i64 a0.f2, .slice A0_3 a0.f3.length n0_3, .slice A0_4 a0.f4.length n0_4]) (e := 24) (fz := (0, 0)) (by kernel_rfl) (by kernel_rfl) (by kernel_rfl) List.mem_cons_self (by kernel_rfl) ?_
          refine gl_pure 3 [1, 13] (K' := [(1, .pointer (some ⟨g1, 0, none⟩)), (13, .bool (decide (a0.f2 > 1125899906842624)))]) (by kernel_rfl) ?_
          refine gl_atE (by kernel_rfl) ?_
          exact ge_mid fun t ht => ⟨(Imm.refl _), rfl, by rw [(show b10 = (decide (a0.f2 > 1125899906842624)) from hb11.trans (by first | (rw [hc13]; done) | (rw [hc13]; rfl) | (simp [hc13]; done) | (simp only [hc13]; rfl) | (simp at *; omega)))]; exact ht.pick (l := [1, 13]) (by kernel_rfl)⟩
      · rintro t I12 L' ⟨hI8, rfl, hK9⟩
        subst hb11
        refine ge_at hK9 ?_
        refine ge_seq ?_
        refine gk_cond (b := ((decide (a0.f2 < 0)) || (decide (a0.f2 > 1125899906842624)))) (by kernel_rfl) (by kernel_rfl) (fun hc14 => ?_) (fun hc14 => ?_)
        · have hr := cond_t hc14 hr
          refine gk_seq (by kernel_rfl) ?_
          refine gk_region (by kernel_rfl) ?_
          refine gl_pure 1 [2] (K' := [(2, .int .i64 1)]) (by kernel_rfl) ?_
          refine gl_atE (by kernel_rfl) ?_
          refine ge_seq ?_
          refine gk_reord (D := L) (Reord.skip (Reord.refl _)) ?_
          refine gk_ret (by kernel_rfl) ?_
          refine ge_block_ret ?_
          refine ge_seq_ret ?_
          obtain rfl := some_inj hr
          exact ge_result trivial (ResOk.tmp (by kernel_rfl) ResOk.nil) hI8 ⟨rfl, rfl⟩
        · have hr := cond_f hc14 hr
          refine gk_seq (by kernel_rfl) ?_
          obtain ⟨b17, hb18⟩ : ∃ z, z = ((decide ((a0.f3.length : Int) > 500)) || (decide ((a0.f4.length : Int) > 500))) := ⟨_, rfl⟩
          refine gk_join (fun t I' L' => I12 ≤ I' ∧ (g1, .cells #[.string a0.f0, .string a0.f1, .int .i64 a0.f2, .slice A0_3 a0.f3.length n0_3, .slice A0_4 a0.f4.length n0_4] 24) :: L = L' ∧ Knows 44 [(1, .pointer (some ⟨g1, 0, none⟩)), (22, .bool b17)] t) ?_ ?_
          · refine gk_region (by kernel_rfl) ?_
            refine gl_pure 1 [1, 23] (K' := [(1, .pointer (some ⟨g1, 0, none⟩)), (23, .pointer (some ⟨g1, 3, none⟩))]) (by kernel_rfl) ?_
            refine gl_loadB (T' := 22) (xp := (.tmp 23)) (v := .slice A0_3 a0.f3.length n0_3) (g := g1) (off := 3) (cs := #[.string a0.f0, .string a0.f1, .int .i64 a0.f2, .slice A0_3 a0.f3.length n0_3, .slice A0_4 a0.f4.length n0_4]) (e := 24) (fz := (0, 0)) (by kernel_rfl) (by kernel_rfl) (by kernel_rfl) List.mem_cons_self (by kernel_rfl) ?_
            refine gl_pure 3 [1, 27] (K' := [(1, .pointer (some ⟨g1, 0, none⟩)), (27, .bool (decide ((a0.f3.length : Int) > 500)))]) (by kernel_rfl) ?_
            refine gl_case 27 (b := (decide ((a0.f3.length : Int) > 500))) (by kernel_rfl) (fun hc20 => ?_) (fun hc20 => ?_)
            · refine gl_pure 6 [1, 22] (K' := [(1, .pointer (some ⟨g1, 0, none⟩)), (22, .bool true)]) (by kernel_rfl) ?_
              refine gl_atE (by kernel_rfl) ?_
              exact ge_mid fun t ht => ⟨(Imm.refl _), rfl, by rw [(show b17 = true from hb18.trans (by first | (rw [hc20]; done) | (rw [hc20]; rfl) | (simp [hc20]; done) | (simp only [hc20]; rfl) | (simp at *; omega)))]; exact ht.pick (l := [1, 22]) (by kernel_rfl)⟩
            · refine gl_pure 1 [1, 27, 28] (K' := [(1, .pointer (some ⟨g1, 0, none⟩)), (27, .bool false), (28, .pointer (some ⟨g1, 4, none⟩))]) (by kernel_rfl) ?_
              refine gl_loadB (T' := 22) (xp := (.tmp 28)) (v := .slice A0_4 a0.f4.length n0_4) (g := g1) (off := 4) (cs := #[.string a0.f0, .string a0.f1, .int .i64 a0.f2, .slice A0_3 a0.f3.length n0_3, .slice A0_4 a0.f4.length n0_4]) (e := 24) (fz := (0, 0)) (by kernel_rfl) (by kernel_rfl) (by kernel_rfl) List.mem_cons_self (by kernel_rfl) ?_
              refine gl_pure 4 [1, 22] (K' := [(1, .pointer (some ⟨g1, 0, none⟩)), (22, .bool (decide ((a0.f4.length : Int) > 500)))]) (by kernel_rfl) ?_
              refine gl_atE (by kernel_rfl) ?_
              exact ge_mid fun t ht => ⟨(Imm.refl _), rfl, by rw [(show b17 = (decide ((a0.f4.length : Int) > 500)) from hb18.trans (by first | (rw [hc20]; done) | (rw [hc20]; rfl) | (simp [hc20]; done) | (simp only [hc20]; rfl) | (simp at *; omega)))]; exact ht.pick (l := [1, 22]) (by kernel_rfl)⟩
          · rintro t I19 L' ⟨hI15, rfl, hK16⟩
            subst hb18
            refine ge_at hK16 ?_
            refine ge_seq ?_
            refine gk_cond (b := ((decide ((a0.f3.length : Int) > 500)) || (decide ((a0.f4.length : Int) > 500)))) (by kernel_rfl) (by kernel_rfl) (fun hc21 => ?_) (fun hc21 => ?_)
            · have hr := cond_t hc21 hr
              refine gk_seq (by kernel_rfl) ?_
              refine gk_region (by kernel_rfl) ?_
              refine gl_pure 1 [2] (K' := [(2, .int .i64 8)]) (by kernel_rfl) ?_
              refine gl_atE (by kernel_rfl) ?_
              refine ge_seq ?_
              refine gk_reord (D := L) (Reord.skip (Reord.refl _)) ?_
              refine gk_ret (by kernel_rfl) ?_
              refine ge_block_ret ?_
              refine ge_seq_ret ?_
              obtain rfl := some_inj hr
              exact ge_result trivial (ResOk.tmp (by kernel_rfl) ResOk.nil) (Imm.trans hI8 hI15) ⟨rfl, rfl⟩
            · have hr := cond_f hc21 hr
              refine gk_seq (by kernel_rfl) ?_
              obtain ⟨j22, hj23, hr⟩ := bind_some hr
              refine gk_join (fun t I' L' => I19 ≤ I' ∧ L = L' ∧ Knows 44 [(33, .bool j22)] t) ?_ ?_
              · refine gk_region (by kernel_rfl) ?_
                refine gl_pure 1 [1, 34] (K' := [(1, .pointer (some ⟨g1, 0, none⟩)), (34, .pointer (some ⟨g1, 3, none⟩))]) (by kernel_rfl) ?_
                refine gl_loadB (T' := 22) (xp := (.tmp 34)) (v := .slice A0_3 a0.f3.length n0_3) (g := g1) (off := 3) (cs := #[.string a0.f0, .string a0.f1, .int .i64 a0.f2, .slice A0_3 a0.f3.length n0_3, .slice A0_4 a0.f4.length n0_4]) (e := 24) (fz := (0, 0)) (by kernel_rfl) (by kernel_rfl) (by kernel_rfl) List.mem_cons_self (by kernel_rfl) ?_
                obtain ⟨y27, hx28, hj23⟩ := bind_some hj23
                refine gl_callQ (by kernel_rfl) (nflog_rising_walk (r := y27) (hG.mono (Imm.trans hI8 hI15)) (hf0_3.mono (Imm.trans hI8 hI15)) hx28 _) ?_
                refine gl_pure 2 [1, 38] (K' := [(1, .pointer (some ⟨g1, 0, none⟩)), (38, .bool (!y27))]) (by kernel_rfl) ?_
                refine gl_case 38 (b := (!y27)) (by kernel_rfl) (fun hc29 => ?_) (fun hc29 => ?_)
                · have hj23 := cond_t hc29 hj23
                  refine gl_pure 6 [33] (K' := [(33, .bool true)]) (by kernel_rfl) ?_
                  refine gl_reord (D := L) (Reord.skip (Reord.refl _)) ?_
                  refine gl_atE (by kernel_rfl) ?_
                  obtain rfl := some_inj hj23
                  exact ge_mid fun t ht => ⟨(Imm.refl _), rfl, ht.pick (l := [33]) (by kernel_rfl)⟩
                · have hj23 := cond_f hc29 hj23
                  refine gl_pure 1 [38, 39] (K' := [(38, .bool false), (39, .pointer (some ⟨g1, 4, none⟩))]) (by kernel_rfl) ?_
                  refine gl_loadB (T' := 22) (xp := (.tmp 39)) (v := .slice A0_4 a0.f4.length n0_4) (g := g1) (off := 4) (cs := #[.string a0.f0, .string a0.f1, .int .i64 a0.f2, .slice A0_3 a0.f3.length n0_3, .slice A0_4 a0.f4.length n0_4]) (e := 24) (fz := (0, 0)) (by kernel_rfl) (by kernel_rfl) (by kernel_rfl) List.mem_cons_self (by kernel_rfl) ?_
                  obtain ⟨y30, hx31, hj23⟩ := bind_some hj23
                  refine gl_callQ (by kernel_rfl) (nflog_rising_walk (r := y30) (hG.mono (Imm.trans hI8 hI15)) (hf0_4.mono (Imm.trans hI8 hI15)) hx31 _) ?_
                  refine gl_pure 3 [33] (K' := [(33, .bool (!y30))]) (by kernel_rfl) ?_
                  refine gl_reord (D := L) (Reord.skip (Reord.refl _)) ?_
                  refine gl_atE (by kernel_rfl) ?_
                  obtain rfl := some_inj hj23
                  exact ge_mid fun t ht => ⟨(Imm.refl _), rfl, ht.pick (l := [33]) (by kernel_rfl)⟩
              · rintro t I26 L' ⟨hI24, rfl, hK25⟩
                refine ge_at hK25 ?_
                refine ge_seq ?_
                refine gk_cond (b := j22) (by kernel_rfl) (by kernel_rfl) (fun hc32 => ?_) (fun hc32 => ?_)
                · have hr := cond_t hc32 hr
                  refine gk_seq (by kernel_rfl) ?_
                  refine gk_region (by kernel_rfl) ?_
                  refine gl_pure 1 [2] (K' := [(2, .int .i64 41)]) (by kernel_rfl) ?_
                  refine gl_atE (by kernel_rfl) ?_
                  refine ge_seq ?_
                  refine gk_ret (by kernel_rfl) ?_
                  refine ge_block_ret ?_
                  refine ge_seq_ret ?_
                  obtain rfl := some_inj hr
                  exact ge_result trivial (ResOk.tmp (by kernel_rfl) ResOk.nil) (Imm.trans (Imm.trans hI8 hI15) hI24) ⟨rfl, rfl⟩
                · have hr := cond_f hc32 hr
                  refine gk_skip (by kernel_rfl) ?_
                  refine ge_block_normal ?_
                  refine ge_seq ?_
                  refine gk_seq (by kernel_rfl) ?_
                  refine gk_region (by kernel_rfl) ?_
                  refine gl_pure 1 [2] (K' := [(2, .int .i64 0)]) (by kernel_rfl) ?_
                  refine gl_atE (by kernel_rfl) ?_
                  refine ge_seq ?_
                  refine gk_ret (by kernel_rfl) ?_
                  obtain rfl := some_inj hr
                  exact ge_result trivial (ResOk.tmp (by kernel_rfl) ResOk.nil) (Imm.trans (Imm.trans hI8 hI15) hI24) ⟨rfl, rfl⟩
structure Fn86 (I : Imm) (fv : Value) (f : S76 → Option Bool) : Prop where
  out : ∀ I', I ≤ I' → ∀ (x0 : S76) (r : Bool), f x0 = some r → ∀ A0_5 c0_5 A0_6 c0_6, RepS (Kd.sl kS53) I' A0_5 c0_5 x0.f1.f3 → RepS (Kd.sl kS53) I' A0_6 c0_6 x0.f1.f4 → ∀ L, CallsV Tryd.prog fv [.agg #[.string x0.f0.f0, .string x0.f0.f1, .string x0.f1.f0, .string x0.f1.f1, .int .i64 x0.f1.f2, .slice A0_5 x0.f1.f3.length c0_5, .slice A0_6 x0.f1.f4.length c0_6]] I' L (fun v I' L' => v = .bool r ∧ L = L')
theorem Fn86.mono {I J : Imm} {fv : Value} {f : S76 → Option Bool} (h : Fn86 I fv f) (hI : I ≤ J) : Fn86 J fv f := ⟨fun I' hI' => h.out I' (Imm.trans hI hI')⟩
/-! 52 slices_IndexFunc  -/
noncomputable def slices_IndexFunc_l17 (a0 : List S76) (a1 : S76 → Option Bool) : Int → Option ((Int) ⊕ ((Unit) ⊕ (Int))) := fun s7 =>
  bif (decide (s7 < (a0.length : Int))) then
  (Option.bind (ix a0 s7) fun (x20 : S76) =>
    Option.bind (a1 x20) fun (y35 : Bool) =>
    bif y35 then
    (some (Sum.inr (Sum.inr s7)))
    else
    (some (Sum.inl (IntKind.wrap .i64 (s7 + 1)))))
  else
  (some (Sum.inr (Sum.inl ())))
noncomputable def slices_IndexFunc (a0 : List S76) (a1 : S76 → Option Bool) : Option Int :=
  Option.bind (loopO (slices_IndexFunc_l17 a0 a1) 0) fun (r5 : (Unit) ⊕ (Int)) =>
  match r5 with
  | Sum.inl r13 => some (-1)
  | Sum.inr v37 => some v37
theorem slices_IndexFunc_walk {a0 : List S76} {A0_0 : Option Addr} {n0_0 : Nat} {a1 : S76 → Option Bool} {fv1 : Value} {I : Imm} {r : Int}  (hf0_0 : RepS kS76 I A0_0 n0_0 a0) (hf1 : Fn86 I fv1 a1) (hr : slices_IndexFunc a0 a1 = some r) (L : Own) :
    CallsTo Tryd.prog 52 #[.slice A0_0 a0.length n0_0, fv1] I L (fun v I' L' => v = .int .i64 r ∧ L = L') := by
  unfold slices_IndexFunc at hr
  refine callsTo_body (N := 19) Tryd.func52 (by kernel_rfl) (by kernel_rfl) (by kernel_rfl) ?_
  refine gk_pick [0, 1] (K' := [(0, .slice A0_0 a0.length n0_0), (1, fv1)]) (by kernel_rfl) ?_
  refine gk_seq (by kernel_rfl) ?_
  refine gk_region (by kernel_rfl) ?_
  refine gl_pure 1 [0, 1] (K' := [(0, .slice A0_0 a0.length n0_0), (1, fv1)]) (by kernel_rfl) ?_
  refine gl_atE (by kernel_rfl) ?_
  refine ge_seq ?_
  refine gk_seq (by kernel_rfl) ?_
  refine gk_seq (by kernel_rfl) ?_
  refine gk_region (by kernel_rfl) ?_
  refine gl_pure 3 [0, 1, 7, 8] (K' := [(0, .slice A0_0 a0.length n0_0), (1, fv1), (7, .int .i64 (a0.length : Int)), (8, .int .i64 0)]) (by kernel_rfl) ?_
  refine gl_atE (by kernel_rfl) ?_
  refine ge_seq ?_
  obtain ⟨r5, hl6, hr⟩ := bind_some hr
  refine gk_join (fun t I' L' => ∃ r13, r5 = Sum.inl r13 ∧ I ≤ I' ∧ L = L' ∧ Knows 19 [] t) ?_ ?_
  · refine gk_block (by kernel_rfl) ?_
    refine gk_pick [0, 1, 7, 8] (K' := [(0, .slice A0_0 a0.length n0_0), (1, fv1), (7, .int .i64 (a0.length : Int)), (8, .int .i64 0)]) (by kernel_rfl) ?_
    intro t hK
    refine gc_loop (slices_IndexFunc_l17 a0 a1) (fun s7 t I' L' => I ≤ I' ∧ L = L' ∧ Knows 19 [(0, .slice A0_0 a0.length n0_0), (1, fv1), (7, .int .i64 (a0.length : Int)), (8, .int .i64 s7)] t) (by kernel_rfl) ?_ hl6 ⟨(Imm.refl _), rfl, hK⟩
    rintro s7 o8 t I12 L' hb9 ⟨hI10, rfl, hK11⟩
    unfold slices_IndexFunc_l17 at hb9
    refine gk_at hK11 ?_
    refine gk_seq (by kernel_rfl) ?_
    refine gk_region (by kernel_rfl) ?_
    refine gl_pure 1 [0, 1, 7, 8, 9] (K' := [(0, .slice A0_0 a0.length n0_0), (1, fv1), (7, .int .i64 (a0.length : Int)), (8, .int .i64 s7), (9, .bool (decide (s7 < (a0.length : Int))))]) (by kernel_rfl) ?_
    refine gl_atE (by kernel_rfl) ?_
    refine ge_seq ?_
    refine gk_seq (by kernel_rfl) ?_
    refine gk_cond (b := (decide (s7 < (a0.length : Int)))) (by kernel_rfl) (by kernel_rfl) (fun hc19 => ?_) (fun hc19 => ?_)
    · have hb9 := cond_t hc19 hb9
      refine gk_skip (by kernel_rfl) ?_
      refine ge_seq ?_
      refine gk_seq (by kernel_rfl) ?_
      refine gk_block (by kernel_rfl) ?_
      refine gk_seq (by kernel_rfl) ?_
      refine gk_region (by kernel_rfl) ?_
      refine gl_pure 2 [0, 1, 5, 7, 8] (K' := [(0, .slice A0_0 a0.length n0_0), (1, fv1), (5, .int .i64 s7), (7, .int .i64 (a0.length : Int)), (8, .int .i64 s7)]) (by kernel_rfl) ?_
      refine gl_atE (by kernel_rfl) ?_
      refine ge_seq ?_
      refine gk_seq (by kernel_rfl) ?_
      refine gk_region (by kernel_rfl) ?_
      refine gl_pure 3 [0, 1, 5, 7, 8, 11, 12, 13] (K' := [(0, .slice A0_0 a0.length n0_0), (1, fv1), (5, .int .i64 s7), (7, .int .i64 (a0.length : Int)), (8, .int .i64 s7), (11, fv1), (12, .slice A0_0 a0.length n0_0), (13, .int .i64 s7)]) (by kernel_rfl) ?_
      obtain ⟨x20, hx21, hb9⟩ := bind_some hb9
      obtain ⟨p22, cs23, hR24, hA25, ha26⟩ := RepS.ixAt hx21 (hf0_0.mono hI10)
      have hi27 := ix_some hx21
      obtain ⟨A28, n29, A31, n32, hf30, hf33, rfl⟩ := kS76_open hR24
      refine gl_indexAddrF (c := n0_0) (T' := 42) (e := 77) (xs := (.tmp 12)) (xi := (.tmp 13)) (kd := .i64) ha26 hi27.1 hi27.2.1 (by kernel_rfl) (by kernel_rfl) (by kernel_rfl) (by kernel_rfl) (by kernel_rfl) ?_
      refine gl_loadA (T' := 77) (xp := (.tmp 14)) (p := p22) (cs := [.string x20.f0.f0, .string x20.f0.f1, .string x20.f1.f0, .string x20.f1.f1, .int .i64 x20.f1.f2, .slice A28 x20.f1.f3.length n29, .slice A31 x20.f1.f4.length n32]) (by kernel_rfl) (by kernel_rfl) (by kernel_rfl) (by kernel_rfl) (hA25.take 7) ?_
      obtain ⟨y35, hx34, hb9⟩ := bind_some hb9
      refine gl_callvQ (by kernel_rfl) ((hf1.mono hI10).out _ (Imm.refl _) _ _ hx34 _ _ _ _ hf30 hf33 _) ?_
      refine gl_atE (by kernel_rfl) ?_
      refine ge_seq ?_
      refine gk_cond (b := y35) (by kernel_rfl) (by kernel_rfl) (fun hc36 => ?_) (fun hc36 => ?_)
      · have hb9 := cond_t hc36 hb9
        refine gk_seq (by kernel_rfl) ?_
        refine gk_region (by kernel_rfl) ?_
        refine gl_pure 2 [4] (K' := [(4, .int .i64 s7)]) (by kernel_rfl) ?_
        refine gl_atE (by kernel_rfl) ?_
        refine ge_seq ?_
        refine gk_ret (by kernel_rfl) ?_
        refine ge_block_ret ?_
        refine ge_seq_ret ?_
        obtain rfl := some_inj hb9
        refine ge_round_out (fun hrr => ?_) (by intro h; cases h)
        obtain rfl := hrr
        refine ge_block_ret ?_
        refine ge_seq_ret ?_
        refine ge_seq_ret ?_
        obtain rfl := some_inj hr
        exact ge_result trivial (ResOk.tmp (by kernel_rfl) ResOk.nil) hI10 ⟨rfl, rfl⟩
      · have hb9 := cond_f hc36 hb9
        refine gk_skip (by kernel_rfl) ?_
        refine ge_block_normal ?_
        refine ge_seq ?_
        refine gk_region (by kernel_rfl) ?_
        refine gl_pure 2 [0, 1, 7, 8] (K' := [(0, .slice A0_0 a0.length n0_0), (1, fv1), (7, .int .i64 (a0.length : Int)), (8, .int .i64 (IntKind.wrap .i64 (s7 + 1)))]) (by kernel_rfl) ?_
        refine gl_atE (by kernel_rfl) ?_
        obtain rfl := some_inj hb9
        exact ge_round fun t ht => ⟨hI10, rfl, ht.pick (l := [0, 1, 7, 8]) (by kernel_rfl)⟩
    · have hb9 := cond_f hc19 hb9
      refine gk_exit (by kernel_rfl) ?_
      refine ge_seq_exit ?_
      obtain rfl := some_inj hb9
      refine ge_round_out (fun hrr => ?_) (by intro h; cases h)
      obtain rfl := hrr
      refine ge_block_hit (by kernel_rfl) ?_
      exact ge_mid fun t ht => ⟨_, rfl, hI10, rfl, ht.pick (l := []) (by kernel_rfl)⟩
  · rintro t I16 L' ⟨r13, rfl, hI14, rfl, hK15⟩
    refine ge_at hK15 ?_
    refine ge_seq ?_
    refine gk_seq (by kernel_rfl) ?_
    refine gk_region (by kernel_rfl) ?_
    refine gl_pure 1 [4] (K' := [(4, .int .i64 (-1))]) (by kernel_rfl) ?_
    refine gl_atE (by kernel_rfl) ?_
    refine ge_seq ?_
    refine gk_ret (by kernel_rfl) ?_
    obtain rfl := some_inj hr
    exact ge_result trivial (ResOk.tmp (by kernel_rfl) ResOk.nil) hI14 ⟨rfl, rfl⟩
/-! 54 nflog_key_compare  -/
noncomputable def nflog_key_compare (a0 : S59) (a1 : S59) : Int :=
  bif ((strings_Compare a0.f0 a1.f0) != 0) then
  ((strings_Compare a0.f0 a1.f0))
  else
  ((strings_Compare a0.f1 a1.f1))
theorem nflog_key_compare_walk {a0 : S59} {a1 : S59} {I : Imm} {r : Int}  (hr : nflog_key_compare a0 a1 = r) (L : Own) :
    CallsTo Tryd.prog 54 #[.agg #[.string a0.f0, .string a0.f1], .agg #[.string a1.f0, .string a1.f1]] I L (fun v I' L' => v = .int .i64 r ∧ L = L') := by
  replace hr : some (nflog_key_compare a0 a1) = some r := congrArg some hr
  unfold nflog_key_compare at hr
  refine callsTo_body (N := 19) Tryd.func54 (by kernel_rfl) (by kernel_rfl) (by kernel_rfl) ?_
  refine gk_pick [0, 1] (K' := [(0, .agg #[.string a0.f0, .string a0.f1]), (1, .agg #[.string a1.f0, .string a1.f1])]) (by kernel_rfl) ?_
  refine gk_seq (by kernel_rfl) ?_
  refine gk_region (by kernel_rfl) ?_
  refine gl_box (T' := 60) (x := (.tmp 0)) (v := .agg #[.string a0.f0, .string a0.f1]) (cs := #[.string a0.f0, .string a0.f1]) (by kernel_rfl) (by kernel_rfl) (by kernel_rfl) (by kernel_rfl) (fun gb1 => ?_)
  refine gl_box (T' := 60) (x := (.tmp 1)) (v := .agg #[.string a1.f0, .string a1.f1]) (cs := #[.string a1.f0, .string a1.f1]) (by kernel_rfl) (by kernel_rfl) (by kernel_rfl) (by kernel_rfl) (fun g2 => ?_)
  refine gl_pure 1 [2, 3] (K' := [(2, .pointer (some ⟨gb1, 0, none⟩)), (3, .pointer (some ⟨g2, 0, none⟩))]) (by kernel_rfl) ?_
  refine gl_atE (by kernel_rfl) ?_
  refine ge_seq ?_
  refine gk_seq (by kernel_rfl) ?_
  refine gk_seq (by kernel_rfl) ?_
  refine gk_region (by kernel_rfl) ?_
  refine gl_pure 1 [2, 3, 6] (K' := [(2, .pointer (some ⟨gb1, 0, none⟩)), (3, .pointer (some ⟨g2, 0, none⟩)), (6, .pointer (some ⟨gb1, 0, none⟩))]) (by kernel_rfl) ?_
  refine gl_loadB (T' := 9) (xp := (.tmp 6)) (v := .string a0.f0) (g := gb1) (off := 0) (cs := #[.string a0.f0, .string a0.f1]) (e := 60) (fz := (0, 0)) (by kernel_rfl) (by kernel_rfl) (by kernel_rfl) (List.mem_cons_of_mem _ List.mem_cons_self) (by kernel_rfl) ?_
  refine gl_pure 1 [2, 3, 7, 8] (K' := [(2, .pointer (some ⟨gb1, 0, none⟩)), (3, .pointer (some ⟨g2, 0, none⟩)), (7, .string a0.f0), (8, .pointer (some ⟨g2, 0, none⟩))]) (by kernel_rfl) ?_
  refine gl_loadB (T' := 9) (xp := (.tmp 8)) (v := .string a1.f0) (g := g2) (off := 0) (cs := #[.string a1.f0, .string a1.f1]) (e := 60) (fz := (0, 0)) (by kernel_rfl) (by kernel_rfl) (by kernel_rfl) List.mem_cons_self (by kernel_rfl) ?_
  refine gl_callQ (by kernel_rfl) (strings_Compare_walk (r := (strings_Compare a0.f0 a1.f0))  rfl _) ?_
  refine gl_pure 1 [2, 3, 5] (K' := [(2, .pointer (some ⟨gb1, 0, none⟩)), (3, .pointer (some ⟨g2, 0, none⟩)), (5, .int .i64 (strings_Compare a0.f0 a1.f0))]) (by kernel_rfl) ?_
  refine gl_atE (by kernel_rfl) ?_
  refine ge_seq ?_
  refine gk_seq (by kernel_rfl) ?_
  refine gk_region (by kernel_rfl) ?_
  refine gl_pure 2 [2, 3, 5, 12] (K' := [(2, .pointer (some ⟨gb1, 0, none⟩)), (3, .pointer (some ⟨g2, 0, none⟩)), (5, .int .i64 (strings_Compare a0.f0 a1.f0)), (12, .bool ((strings_Compare a0.f0 a1.f0) != 0))]) (by kernel_rfl) ?_
  refine gl_atE (by kernel_rfl) ?_
  refine ge_seq ?_
  refine gk_cond (b := ((strings_Compare a0.f0 a1.f0) != 0)) (by kernel_rfl) (by kernel_rfl) (fun hc3 => ?_) (fun hc3 => ?_)
  · have hr := scond_t hc3 hr
    refine gk_seq (by kernel_rfl) ?_
    refine gk_region (by kernel_rfl) ?_
    refine gl_pure 2 [4] (K' := [(4, .int .i64 (strings_Compare a0.f0 a1.f0))]) (by kernel_rfl) ?_
    refine gl_atE (by kernel_rfl) ?_
    refine ge_seq ?_
    refine gk_reord (D := L) (Reord.skip (Reord.skip (Reord.refl _))) ?_
    refine gk_ret (by kernel_rfl) ?_
    refine ge_seq_ret ?_
    obtain rfl := some_inj hr
    exact ge_result trivial (ResOk.tmp (by kernel_rfl) ResOk.nil) (Imm.refl _) ⟨rfl, rfl⟩
  · have hr := scond_f hc3 hr
    refine gk_skip (by kernel_rfl) ?_
    refine ge_seq ?_
    refine gk_seq (by kernel_rfl) ?_
    refine gk_region (by kernel_rfl) ?_
    refine gl_pure 1 [3, 14] (K' := [(3, .pointer (some ⟨g2, 0, none⟩)), (14, .pointer (some ⟨gb1, 1, none⟩))]) (by kernel_rfl) ?_
    refine gl_loadB (T' := 9) (xp := (.tmp 14)) (v := .string a0.f1) (g := gb1) (off := 1) (cs := #[.string a0.f0, .string a0.f1]) (e := 60) (fz := (0, 0)) (by kernel_rfl) (by kernel_rfl) (by kernel_rfl) (List.mem_cons_of_mem _ List.mem_cons_self) (by kernel_rfl) ?_
    refine gl_pure 1 [15, 16] (K' := [(15, .string a0.f1), (16, .pointer (some ⟨g2, 1, none⟩))]) (by kernel_rfl) ?_
    refine gl_loadB (T' := 9) (xp := (.tmp 16)) (v := .string a1.f1) (g := g2) (off := 1) (cs := #[.string a1.f0, .string a1.f1]) (e := 60) (fz := (0, 0)) (by kernel_rfl) (by kernel_rfl) (by kernel_rfl) List.mem_cons_self (by kernel_rfl) ?_
    refine gl_callQ (by kernel_rfl) (strings_Compare_walk (r := (strings_Compare a0.f1 a1.f1))  rfl _) ?_
    refine gl_pure 1 [4] (K' := [(4, .int .i64 (strings_Compare a0.f1 a1.f1))]) (by kernel_rfl) ?_
    refine gl_atE (by kernel_rfl) ?_
    refine ge_seq ?_
    refine gk_reord (D := L) (Reord.skip (Reord.skip (Reord.refl _))) ?_
    refine gk_ret (by kernel_rfl) ?_
    obtain rfl := some_inj hr
    exact ge_result trivial (ResOk.tmp (by kernel_rfl) ResOk.nil) (Imm.refl _) ⟨rfl, rfl⟩
/-! 53 nflog_list_find_1 ('imm', ('ptrR', 60)) -/
noncomputable def nflog_list_find_1 (a0 : S76) (a1 : S59) : Bool :=
  (decide ((nflog_key_compare a0.f0 a1) ≥ 0))
theorem nflog_list_find_1_walk {a0 : S76} {A0_5 : Option Addr} {n0_5 : Nat} {A0_6 : Option Addr} {n0_6 : Nat} {a1 : S59} {p1 : Addr} {I : Imm} {r : Bool}  (hf0_5 : RepS (Kd.sl kS53) I A0_5 n0_5 a0.f1.f3) (hf0_6 : RepS (Kd.sl kS53) I A0_6 n0_6 a0.f1.f4) (hp1 : RunAt I p1 [.string a1.f0, .string a1.f1]) (hr : nflog_list_find_1 a0 a1 = r) (L : Own) :
    CallsTo Tryd.prog 53 #[.agg #[.string a0.f0.f0, .string a0.f0.f1, .string a0.f1.f0, .string a0.f1.f1, .int .i64 a0.f1.f2, .slice A0_5 a0.f1.f3.length n0_5, .slice A0_6 a0.f1.f4.length n0_6], .pointer (some p1)] I L (fun v I' L' => v = .bool r ∧ L = L') := by
  replace hr : some (nflog_list_find_1 a0 a1) = some r := congrArg some hr
  unfold nflog_list_find_1 at hr
  refine callsTo_body (N := 9) Tryd.func53 (by kernel_rfl) (by kernel_rfl) (by kernel_rfl) ?_
  refine gk_pick [0, 1] (K' := [(0, .agg #[.string a0.f0.f0, .string a0.f0.f1, .string a0.f1.f0, .string a0.f1.f1, .int .i64 a0.f1.f2, .slice A0_5 a0.f1.f3.length n0_5, .slice A0_6 a0.f1.f4.length n0_6]), (1, .pointer (some p1))]) (by kernel_rfl) ?_
  refine gk_seq (by kernel_rfl) ?_
  refine gk_region (by kernel_rfl) ?_
  refine gl_box (T' := 77) (x := (.tmp 0)) (v := .agg #[.string a0.f0.f0, .string a0.f0.f1, .string a0.f1.f0, .string a0.f1.f1, .int .i64 a0.f1.f2, .slice A0_5 a0.f1.f3.length n0_5, .slice A0_6 a0.f1.f4.length n0_6]) (cs := #[.string a0.f0.f0, .string a0.f0.f1, .string a0.f1.f0, .string a0.f1.f1, .int .i64 a0.f1.f2, .slice A0_5 a0.f1.f3.length n0_5, .slice A0_6 a0.f1.f4.length n0_6]) (by kernel_rfl) (by kernel_rfl) (by kernel_rfl) (by kernel_rfl) (fun gb1 => ?_)
  refine gl_pure 1 [1, 2] (K' := [(1, .pointer (some p1)), (2, .pointer (some ⟨gb1, 0, none⟩))]) (by kernel_rfl) ?_
  refine gl_atE (by kernel_rfl) ?_
  refine ge_seq ?_
  refine gk_seq (by kernel_rfl) ?_
  refine gk_region (by kernel_rfl) ?_
  refine gl_pure 1 [1, 4] (K' := [(1, .pointer (some p1)), (4, .pointer (some ⟨gb1, 0, none⟩))]) (by kernel_rfl) ?_
  refine gl_loadB (T' := 60) (xp := (.tmp 4)) (v := .agg #[.string a0.f0.f0, .string a0.f0.f1]) (g := gb1) (off := 0) (cs := #[.string a0.f0.f0, .string a0.f0.f1, .string a0.f1.f0, .string a0.f1.f1, .int .i64 a0.f1.f2, .slice A0_5 a0.f1.f3.length n0_5, .slice A0_6 a0.f1.f4.length n0_6]) (e := 77) (fz := (0, 0)) (by kernel_rfl) (by kernel_rfl) (by kernel_rfl) List.mem_cons_self (by kernel_rfl) ?_
  refine gl_loadA (T' := 60) (xp := (.tmp 1)) (p := p1) (cs := [.string a1.f0, .string a1.f1]) (by kernel_rfl) (by kernel_rfl) (by kernel_rfl) (by kernel_rfl) (hp1.take 2) ?_
  refine gl_callQ (by kernel_rfl) (nflog_key_compare_walk (r := (nflog_key_compare a0.f0 a1))  rfl _) ?_
  refine gl_pure 2 [3] (K' := [(3, .bool (decide ((nflog_key_compare a0.f0 a1) ≥ 0)))]) (by kernel_rfl) ?_
  refine gl_atE (by kernel_rfl) ?_
  refine ge_seq ?_
  refine gk_reord (D := L) (Reord.skip (Reord.refl _)) ?_
  refine gk_ret (by kernel_rfl) ?_
  obtain rfl := some_inj hr
  exact ge_result trivial (ResOk.tmp (by kernel_rfl) ResOk.nil) (Imm.refl _) ⟨rfl, rfl⟩
theorem nflog_list_find_1_impl86 {a1 : S59} {p1 : Addr} {I : Imm} (hp1 : RunAt I p1 [.string a1.f0, .string a1.f1]) : Fn86 I (.func (.func 53) #[] #[.pointer (some p1)]) (fun x0 => some (nflog_list_find_1 x0 a1)) := ⟨fun I' hI x0 r hr A0_5 c0_5 A0_6 c0_6 h0_5 h0_6 L => ⟨53, #[], #[.pointer (some p1)], rfl, ⟨_, Tryd.func53, by kernel_rfl, by kernel_rfl⟩, by
  simp only [List.append_toArray, List.nil_append, List.append_nil, Array.append_empty, Array.empty_append, List.push_append_toArray, List.cons_append]
  exact nflog_list_find_1_walk  h0_5 h0_6 (hp1.mono hI) (some_inj hr) L⟩⟩
/-! 34 nflog_list_find ('obj', 'imm') -/
noncomputable def nflog_list_find (a0 : S43) (a1 : S59) : Option (Int × Bool) :=
  Option.bind (slices_IndexFunc a0.f0 (fun x0 => some (nflog_list_find_1 x0 a1))) fun (y2 : Int) =>
  bif (decide (y2 < 0)) then
  (some ((a0.f0.length : Int), false))
  else
  (Option.bind (ix a0.f0 y2) fun (x5 : S76) =>
    some (y2, ((x5.f0.f0.toList == a1.f0.toList) && (x5.f0.f1.toList == a1.f1.toList))))
theorem nflog_list_find_walk {a0 : S43} {g0 : Nat} {T0 : TypeId} {A0_0 : Option Addr} {c0_0 : Nat} {C0_0 : Own} {a1 : S59} {I : Imm} {r : Int × Bool}  (hO0_0 : OwnS kS76 77 I A0_0 c0_0 a0.f0 C0_0) (hr : nflog_list_find a0 a1 = some r) (L : Own) :
    CallsTo Tryd.prog 34 #[.pointer (some ⟨g0, 0, none⟩), .agg #[.string a1.f0, .string a1.f1]] I ((g0, .cells #[.slice A0_0 a0.f0.length c0_0] T0) :: (C0_0 ++ L)) (fun v I' L' => v = .tuple #[.int .i64 r.1, .bool r.2] ∧ (g0, .cells #[.slice A0_0 a0.f0.length c0_0] T0) :: (C0_0 ++ L) = L') := by
  unfold nflog_list_find at hr
  refine callsTo_body (N := 31) Tryd.func34 (by kernel_rfl) (by kernel_rfl) (by kernel_rfl) ?_
  refine gk_pick [0, 1] (K' := [(0, .pointer (some ⟨g0, 0, none⟩)), (1, .agg #[.string a1.f0, .string a1.f1])]) (by kernel_rfl) ?_
  refine gk_seq (by kernel_rfl) ?_
  refine gk_region (by kernel_rfl) ?_
  refine gl_box (T' := 60) (x := (.tmp 1)) (v := .agg #[.string a1.f0, .string a1.f1]) (cs := #[.string a1.f0, .string a1.f1]) (by kernel_rfl) (by kernel_rfl) (by kernel_rfl) (by kernel_rfl) (fun gb1 => ?_)
  refine gl_pure 2 [0, 3] (K' := [(0, .pointer (some ⟨g0, 0, none⟩)), (3, .pointer (some ⟨gb1, 0, none⟩))]) (by kernel_rfl) ?_
  refine gl_atE (by kernel_rfl) ?_
  refine ge_seq ?_
  refine gk_seq (by kernel_rfl) ?_
  refine gk_region (by kernel_rfl) ?_
  refine gl_pure 3 [0, 3, 9] (K' := [(0, .pointer (some ⟨g0, 0, none⟩)), (3, .pointer (some ⟨gb1, 0, none⟩)), (9, .pointer (some ⟨g0, 0, none⟩))]) (by kernel_rfl) ?_
  refine gl_loadB (T' := 42) (xp := (.tmp 9)) (v := .slice A0_0 a0.f0.length c0_0) (g := g0) (off := 0) (cs := #[.slice A0_0 a0.f0.length c0_0]) (e := T0) (fz := (0, 0)) (by kernel_rfl) (by kernel_rfl) (by kernel_rfl) (List.mem_cons_of_mem _ List.mem_cons_self) (by kernel_rfl) ?_
  refine gl_pure 1 [0, 3, 10, 11] (K' := [(0, .pointer (some ⟨g0, 0, none⟩)), (3, .pointer (some ⟨gb1, 0, none⟩)), (10, .slice A0_0 a0.f0.length c0_0), (11, .func (.func 53) #[] #[.pointer (some ⟨gb1, 0, none⟩)])]) (by kernel_rfl) ?_
  obtain ⟨y2, hx3, hr⟩ := bind_some hr
  refine gl_callB (r := .int .i64 y2) (Tk.step (Upd.rm1 _ _) (Tk.step (Upd.one _ (Upd.rmC _ _)) (Tk.nil _))) (by kernel_rfl) (fun J hJ hC => slices_IndexFunc_walk (r := y2) (OwnS.rest hO0_0 hJ hC.right.left) (nflog_list_find_1_impl86 hC.left.blk) hx3 _) ?_
  refine gl_pure 1 [0, 3, 6] (K' := [(0, .pointer (some ⟨g0, 0, none⟩)), (3, .pointer (some ⟨gb1, 0, none⟩)), (6, .int .i64 y2)]) (by kernel_rfl) ?_
  refine gl_atE (by kernel_rfl) ?_
  refine ge_seq ?_
  refine gk_seq (by kernel_rfl) ?_
  refine gk_seq (by kernel_rfl) ?_
  refine gk_region (by kernel_rfl) ?_
  refine gl_pure 2 [0, 3, 6, 14] (K' := [(0, .pointer (some ⟨g0, 0, none⟩)), (3, .pointer (some ⟨gb1, 0, none⟩)), (6, .int .i64 y2), (14, .bool (decide (y2 < 0)))]) (by kernel_rfl) ?_
  refine gl_atE (by kernel_rfl) ?_
  refine ge_seq ?_
  refine gk_cond (b := (decide (y2 < 0))) (by kernel_rfl) (by kernel_rfl) (fun hc4 => ?_) (fun hc4 => ?_)
  · have hr := cond_t hc4 hr
    refine gk_seq (by kernel_rfl) ?_
    refine gk_region (by kernel_rfl) ?_
    refine gl_pure 3 [17] (K' := [(17, .pointer (some ⟨g0, 0, none⟩))]) (by kernel_rfl) ?_
    refine gl_loadB (T' := 42) (xp := (.tmp 17)) (v := .slice A0_0 a0.f0.length c0_0) (g := g0) (off := 0) (cs := #[.slice A0_0 a0.f0.length c0_0]) (e := T0) (fz := (0, 0)) (by kernel_rfl) (by kernel_rfl) (by kernel_rfl) (List.mem_cons_of_mem _ List.mem_cons_self) (by kernel_rfl) ?_
    refine gl_pure 3 [4, 5] (K' := [(4, .int .i64 (a0.f0.length : Int)), (5, .bool false)]) (by kernel_rfl) ?_
    refine gl_atE (by kernel_rfl) ?_
    refine ge_seq ?_
    refine gk_reord (D := (g0, .cells #[.slice A0_0 a0.f0.length c0_0] T0) :: (C0_0 ++ L)) (Reord.step1 (Upd.one _ (Upd.rm1 _ _)) (Reord.step (Upd.one _ (Upd.rmC _ _)) (Reord.skip (Reord.refl _)))) ?_
    refine gk_ret (by kernel_rfl) ?_
    refine ge_seq_ret ?_
    obtain rfl := some_inj hr
    exact ge_result trivial (ResOk.tmp (by kernel_rfl) (ResOk.tmp (by kernel_rfl) ResOk.nil)) (Imm.refl _) ⟨rfl, rfl⟩
  · have hr := cond_f hc4 hr
    refine gk_skip (by kernel_rfl) ?_
    refine ge_seq ?_
    refine gk_seq (by kernel_rfl) ?_
    refine gk_draw 13 [(0, true), (1, true), (2, true), (3, true), (4, true), (5, true), (6, true), (7, true), (8, true), (9, true), (10, true), (11, true), (12, true)] (C0_0 ++ [(gb1, .cells #[.string a1.f0, .string a1.f1] 60), (g0, .cells #[.slice A0_0 a0.f0.length c0_0] T0)]) (List.forall_mem_append.2 ⟨fun q hq => (List.mem_cons_of_mem _ (List.mem_cons_of_mem _ (List.mem_append_left _ hq))), (List.forall_mem_cons.2 ⟨List.mem_cons_self, (List.forall_mem_cons.2 ⟨(List.mem_cons_of_mem _ List.mem_cons_self), (fun p hp => by cases hp)⟩)⟩)⟩) (by kernel_rfl) (by kernel_rfl) (by kernel_rfl) ?_ (by kernel_rfl)
    refine gd_pure 4 [3, 6, 20, 23] (K' := [(3, .pointer (some ⟨gb1, 0, none⟩)), (6, .int .i64 y2), (20, .int .i64 y2), (23, .pointer (some ⟨g0, 0, none⟩))]) (s' := [(4, true), (5, true), (6, true), (7, true), (8, true), (9, true), (10, true), (11, true), (12, true)]) (CC.refl (List.forall_mem_append.2 ⟨fun q hq => (List.mem_cons_of_mem _ (List.mem_cons_of_mem _ (List.mem_append_left _ hq))), (List.forall_mem_cons.2 ⟨List.mem_cons_self, (List.forall_mem_cons.2 ⟨(List.mem_cons_of_mem _ List.mem_cons_self), (fun p hp => by cases hp)⟩)⟩)⟩)) (by kernel_rfl) ?_
    refine gd_q (v := .slice A0_0 a0.f0.length c0_0) (by kernel_rfl) (by kernel_rfl) (CC.refl (List.forall_mem_append.2 ⟨fun q hq => (List.mem_cons_of_mem _ (List.mem_cons_of_mem _ (List.mem_append_left _ hq))), (List.forall_mem_cons.2 ⟨List.mem_cons_self, (List.forall_mem_cons.2 ⟨(List.mem_cons_of_mem _ List.mem_cons_self), (fun p hp => by cases hp)⟩)⟩)⟩)) (fun I' L' T hC kk => gl_loadB (T' := 42) (xp := (.tmp 23)) (v := .slice A0_0 a0.f0.length c0_0) (g := g0) (off := 0) (cs := #[.slice A0_0 a0.f0.length c0_0]) (e := T0) (fz := (0, 0)) (by kernel_rfl) (by kernel_rfl) (by kernel_rfl) (hC.sub _ (List.mem_append_right _ (List.mem_cons_of_mem _ List.mem_cons_self))) (by kernel_rfl) kk) ?_
    refine gd_pure 1 [3, 20, 24, 25] (K' := [(3, .pointer (some ⟨gb1, 0, none⟩)), (20, .int .i64 y2), (24, .slice A0_0 a0.f0.length c0_0), (25, .int .i64 y2)]) (s' := [(6, true), (7, true), (8, true), (9, true), (10, true), (11, true), (12, true)]) (CC.refl (List.forall_mem_append.2 ⟨fun q hq => (List.mem_cons_of_mem _ (List.mem_cons_of_mem _ (List.mem_append_left _ hq))), (List.forall_mem_cons.2 ⟨List.mem_cons_self, (List.forall_mem_cons.2 ⟨(List.mem_cons_of_mem _ List.mem_cons_self), (fun p hp => by cases hp)⟩)⟩)⟩)) (by kernel_rfl) ?_
    obtain ⟨x5, hx6, hr⟩ := bind_some hr
    obtain ⟨p7, cs8, hR9, hA10, ha11, hg19⟩ := OwnS.ixAtG hx6 hO0_0
    have hi12 := ix_some hx6
    obtain ⟨A13, n14, A16, n17, hf15, hf18, rfl⟩ := kS76_open hR9
    refine gd_q (v := .pointer (some p7)) (by kernel_rfl) (by kernel_rfl) (CC.refl (List.forall_mem_append.2 ⟨fun q hq => (List.mem_cons_of_mem _ (List.mem_cons_of_mem _ (List.mem_append_left _ hq))), (List.forall_mem_cons.2 ⟨List.mem_cons_self, (List.forall_mem_cons.2 ⟨(List.mem_cons_of_mem _ List.mem_cons_self), (fun p hp => by cases hp)⟩)⟩)⟩)) (fun I' L' T hC kk => gl_indexAddrF (c := c0_0) (T' := 42) (e := 77) (xs := (.tmp 24)) (xi := (.tmp 25)) (kd := .i64) ha11 hi12.1 hi12.2.1 (by kernel_rfl) (by kernel_rfl) (by kernel_rfl) (by kernel_rfl) (by kernel_rfl) kk) ?_
    refine gd_pure 1 [3, 20, 27] (K' := [(3, .pointer (some ⟨gb1, 0, none⟩)), (20, .int .i64 y2), (27, .pointer (some (p7.add 0)))]) (s' := [(8, true), (9, true), (10, true), (11, true), (12, true)]) (CC.refl (List.forall_mem_append.2 ⟨fun q hq => (List.mem_cons_of_mem _ (List.mem_cons_of_mem _ (List.mem_append_left _ hq))), (List.forall_mem_cons.2 ⟨List.mem_cons_self, (List.forall_mem_cons.2 ⟨(List.mem_cons_of_mem _ List.mem_cons_self), (fun p hp => by cases hp)⟩)⟩)⟩)) (by kernel_rfl) ?_
    refine gd_q (v := .agg #[.string x5.f0.f0, .string x5.f0.f1]) (by kernel_rfl) (by kernel_rfl) (CC.refl (List.forall_mem_append.2 ⟨fun q hq => (List.mem_cons_of_mem _ (List.mem_cons_of_mem _ (List.mem_append_left _ hq))), (List.forall_mem_cons.2 ⟨List.mem_cons_self, (List.forall_mem_cons.2 ⟨(List.mem_cons_of_mem _ List.mem_cons_self), (fun p hp => by cases hp)⟩)⟩)⟩)) (fun I' L' T hC kk => gl_loadOA (T' := 60) (xp := (.tmp 27)) (p := (p7.add 0)) (cs := [.string x5.f0.f0, .string x5.f0.f1]) (by kernel_rfl) (by kernel_rfl) (by kernel_rfl) (by kernel_rfl) (((fun I' L' h => (hA10 I' L' h).drop 0) _ _ (fun q hq => hC.sub _ (List.mem_append_left _ hq))).take 2) kk) ?_
    refine gd_q (v := .agg #[.string a1.f0, .string a1.f1]) (by kernel_rfl) (by kernel_rfl) (CC.refl (List.forall_mem_append.2 ⟨fun q hq => (List.mem_cons_of_mem _ (List.mem_cons_of_mem _ (List.mem_append_left _ hq))), (List.forall_mem_cons.2 ⟨List.mem_cons_self, (List.forall_mem_cons.2 ⟨(List.mem_cons_of_mem _ List.mem_cons_self), (fun p hp => by cases hp)⟩)⟩)⟩)) (fun I' L' T hC kk => gl_loadB (T' := 60) (xp := (.tmp 3)) (v := .agg #[.string a1.f0, .string a1.f1]) (g := gb1) (off := 0) (cs := #[.string a1.f0, .string a1.f1]) (e := 60) (fz := (0, 0)) (by kernel_rfl) (by kernel_rfl) (by kernel_rfl) (hC.sub _ (List.mem_append_right _ List.mem_cons_self)) (by kernel_rfl) kk) ?_
    refine gd_q (v := .bool ((x5.f0.f0.toList == a1.f0.toList) && (x5.f0.f1.toList == a1.f1.toList))) (by kernel_rfl) (by kernel_rfl) (CC.refl (List.forall_mem_append.2 ⟨fun q hq => (List.mem_cons_of_mem _ (List.mem_cons_of_mem _ (List.mem_append_left _ hq))), (List.forall_mem_cons.2 ⟨List.mem_cons_self, (List.forall_mem_cons.2 ⟨(List.mem_cons_of_mem _ List.mem_cons_self), (fun p hp => by cases hp)⟩)⟩)⟩)) (fun I' L' T hC kk => gl_eqAgg (cx := #[.string x5.f0.f0, .string x5.f0.f1]) (cy := #[.string a1.f0, .string a1.f1]) (n := false) (t := 60) (t' := 60) (x := (.tmp 28)) (y := (.tmp 29)) (b := ((x5.f0.f0.toList == a1.f0.toList) && (x5.f0.f1.toList == a1.f1.toList))) (by kernel_rfl) (by kernel_rfl) (by kernel_rfl) (by kernel_rfl) (by kernel_rfl) kk) ?_
    refine gd_pure 2 [4, 5] (K' := [(4, .int .i64 y2), (5, .bool ((x5.f0.f0.toList == a1.f0.toList) && (x5.f0.f1.toList == a1.f1.toList)))]) (s' := []) (CC.refl (List.forall_mem_append.2 ⟨fun q hq => (List.mem_cons_of_mem _ (List.mem_cons_of_mem _ (List.mem_append_left _ hq))), (List.forall_mem_cons.2 ⟨List.mem_cons_self, (List.forall_mem_cons.2 ⟨(List.mem_cons_of_mem _ List.mem_cons_self), (fun p hp => by cases hp)⟩)⟩)⟩)) (by kernel_rfl) ?_
    refine gd_done ?_
    refine gl_atE (by kernel_rfl) ?_
    refine ge_seq ?_
    refine gk_reord (D := (g0, .cells #[.slice A0_0 a0.f0.length c0_0] T0) :: (C0_0 ++ L)) (Reord.step1 (Upd.one _ (Upd.rm1 _ _)) (Reord.step (Upd.one _ (Upd.rmC _ _)) (Reord.skip (Reord.refl _)))) ?_
    refine gk_ret (by kernel_rfl) ?_
    obtain rfl := some_inj hr
    exact ge_result trivial (ResOk.tmp (by kernel_rfl) (ResOk.tmp (by kernel_rfl) ResOk.nil)) (Imm.refl _) ⟨rfl, rfl⟩
/-! 57 slices_Clone  -/
noncomputable def slices_Clone (a0 : List S53) : Option (List S53) :=
  Option.bind (app ([] : List S53) a0) fun (zs3 : List S53) =>
  some zs3
theorem slices_Clone_walk {a0 : List S53} {A0_0 : Option Addr} {n0_0 : Nat} {I : Imm} {r : (List S53)}  (hf0_0 : RepS kS53 I A0_0 n0_0 a0) (hr : slices_Clone a0 = some r) (L : Own) :
    CallsTo Tryd.prog 57 #[.slice A0_0 a0.length n0_0] I L (fun v I' L' => ∃ A0 c0 C0, OwnS kS53 54 I' A0 c0 r C0 ∧ v = .slice A0 r.length c0 ∧ C0 ++ L = L') := by
  unfold slices_Clone at hr
  refine callsTo_body (N := 8) Tryd.func57 (by kernel_rfl) (by kernel_rfl) (by kernel_rfl) ?_
  refine gk_pick [0] (K' := [(0, .slice A0_0 a0.length n0_0)]) (by kernel_rfl) ?_
  refine gk_seq (by kernel_rfl) ?_
  refine gk_region (by kernel_rfl) ?_
  refine gl_pure 1 [0] (K' := [(0, .slice A0_0 a0.length n0_0)]) (by kernel_rfl) ?_
  refine gl_atE (by kernel_rfl) ?_
  refine ge_seq ?_
  refine gk_seq (by kernel_rfl) ?_
  refine gk_seq (by kernel_rfl) ?_
  refine gk_region (by kernel_rfl) ?_
  refine gl_pure 1 [0, 3] (K' := [(0, .slice A0_0 a0.length n0_0), (3, .slice A0_0 a0.length n0_0)]) (by kernel_rfl) ?_
  refine gl_eqNil (A := A0_0) (len := a0.length) (c := n0_0) (a := 0) (b := 0) (t := 25) (t' := 25) (x := (.tmp 3)) (y := (.const (.slice none 0 0))) (by kernel_rfl) (by kernel_rfl) (by kernel_rfl) (by kernel_rfl) (by kernel_rfl) ?_
  refine gl_atE (by kernel_rfl) ?_
  refine ge_seq ?_
  refine gk_cond (b := A0_0.isNone) (by kernel_rfl) (by kernel_rfl) (fun hc1 => ?_) (fun hc1 => ?_)
  · have hr := clone_nil hr (RepS.isNil hf0_0 hc1)
    refine gk_seq (by kernel_rfl) ?_
    refine gk_region (by kernel_rfl) ?_
    refine gl_pure 1 [2] (K' := [(2, .slice none 0 0)]) (by kernel_rfl) ?_
    refine gl_atE (by kernel_rfl) ?_
    refine ge_seq ?_
    refine gk_ret (by kernel_rfl) ?_
    refine ge_seq_ret ?_
    obtain rfl := some_inj hr
    exact ge_result trivial (ResOk.tmp (by kernel_rfl) ResOk.nil) (Imm.refl _) ⟨none, 0, [], OwnS.nil _ _ _ _, rfl, rfl⟩
  · refine gk_skip (by kernel_rfl) ?_
    refine ge_seq ?_
    refine gk_seq (by kernel_rfl) ?_
    refine gk_region (by kernel_rfl) ?_
    refine gl_buildSlice0 (T' := 25) (e := 54) (n := 2) (by kernel_rfl) (by kernel_rfl) (by kernel_rfl) (fun g2 => ?_)
    refine gl_reord (D := [(g2, .cells #[] 54)] ++ L) (Reord.refl _) ?_
    refine gl_pure 1 [5, 6] (K' := [(5, .slice (some ⟨g2, 0, none⟩) ([] : List S53).length 0), (6, .slice A0_0 a0.length n0_0)]) (by kernel_rfl) ?_
    obtain ⟨zs3, hz4, hr⟩ := bind_some hr
    refine gl_append (xv := .slice A0_0 a0.length n0_0) (d := kS53) (t := 25) (tx := 25) (e := 54) (s := (.tmp 5)) (x := (.tmp 6)) (xs := ([] : List S53)) (fun X => X ++ L) hz4 (by kernel_rfl) (by kernel_rfl) (by kernel_rfl) (by kernel_rfl) (by kernel_rfl) (by kernel_rfl) (fun X => (Upd.head _ X _)) (OwnS.empty _ _ _ _) (SrcOk.slice (c := n0_0) (e := 54) (n := 2) (RepS.rd hf0_0 _) (by kernel_rfl)) (fun A5 n6 C7 hO8 => ?_)
    refine gl_pure 1 [2] (K' := [(2, .slice A5 zs3.length n6)]) (by kernel_rfl) ?_
    refine gl_atE (by kernel_rfl) ?_
    refine ge_seq ?_
    refine gk_ret (by kernel_rfl) ?_
    obtain rfl := some_inj hr
    exact ge_result trivial (ResOk.tmp (by kernel_rfl) ResOk.nil) (Imm.refl _) ⟨A5, n6, C7, hO8, rfl, rfl⟩
/-! 36 nflog_sets  -/
noncomputable def nflog_sets_l28 (a0 : List (List S53)) : ((List (List S53)) × Int) → Option (((List (List S53)) × Int) ⊕ ((List (List S53)))) := fun s11 =>
  bif (decide (s11.2 < (a0.length : Int))) then
  (Option.bind (ix a0 s11.2) fun (x31 : List S53) =>
    Option.bind (slices_Clone x31) fun (y42 : (List S53)) =>
    Option.bind (app s11.1 [y42]) fun (zs59 : List (List S53)) =>
    some (Sum.inl (zs59, (IntKind.wrap .i64 (s11.2 + 1)))))
  else
  (some (Sum.inr s11.1))
noncomputable def nflog_sets (a0 : List (List S53)) : Option (List (List S53)) :=
  Option.bind (loopO (nflog_sets_l28 a0) ([], 0)) fun (r9 : (List (List S53))) =>
  some r9
theorem nflog_sets_walk {a0 : List (List S53)} {A0_0 : Option Addr} {n0_0 : Nat} {I : Imm} {r : (List (List S53))}  (hf0_0 : RepS (Kd.sl kS53) I A0_0 n0_0 a0) (hr : nflog_sets a0 = some r) (L : Own) :
    CallsTo Tryd.prog 36 #[.slice A0_0 a0.length n0_0] I L (fun v I' L' => ∃ A0 c0 C0, OwnS (Kd.sl kS53) 25 I' A0 c0 r C0 ∧ v = .slice A0 r.length c0 ∧ C0 ++ L = L') := by
  unfold nflog_sets at hr
  refine callsTo_body (N := 19) Tryd.func36 (by kernel_rfl) (by kernel_rfl) (by kernel_rfl) ?_
  refine gk_pick [0] (K' := [(0, .slice A0_0 a0.length n0_0)]) (by kernel_rfl) ?_
  refine gk_seq (by kernel_rfl) ?_
  refine gk_region (by kernel_rfl) ?_
  refine gl_pure 1 [0] (K' := [(0, .slice A0_0 a0.length n0_0)]) (by kernel_rfl) ?_
  refine gl_atE (by kernel_rfl) ?_
  refine ge_seq ?_
  refine gk_seq (by kernel_rfl) ?_
  refine gk_region (by kernel_rfl) ?_
  refine gl_pure 1 [0, 3] (K' := [(0, .slice A0_0 a0.length n0_0), (3, .slice none 0 0)]) (by kernel_rfl) ?_
  refine gl_atE (by kernel_rfl) ?_
  refine ge_seq ?_
  refine gk_seq (by kernel_rfl) ?_
  refine gk_seq (by kernel_rfl) ?_
  refine gk_region (by kernel_rfl) ?_
  refine gl_pure 3 [3, 6, 7, 8] (K' := [(3, .slice none 0 0), (6, .slice A0_0 a0.length n0_0), (7, .int .i64 (a0.length : Int)), (8, .int .i64 0)]) (by kernel_rfl) ?_
  refine gl_atE (by kernel_rfl) ?_
  refine ge_seq ?_
  obtain ⟨r9, hl10, hr⟩ := bind_some hr
  refine gk_join (fun t I' L' => ∃ A22 n23 C24, OwnS (Kd.sl kS53) 25 I' A22 n23 r9 C24 ∧ I ≤ I' ∧ C24 ++ L = L' ∧ Knows 19 [(3, .slice A22 r9.length n23)] t) ?_ ?_
  · refine gk_block (by kernel_rfl) ?_
    refine gk_pick [3, 6, 7, 8] (K' := [(3, .slice none 0 0), (6, .slice A0_0 a0.length n0_0), (7, .int .i64 (a0.length : Int)), (8, .int .i64 0)]) (by kernel_rfl) ?_
    intro t hK
    refine gc_loop (nflog_sets_l28 a0) (fun s11 t I' L' => ∃ A15 n16 C17, OwnS (Kd.sl kS53) 25 I' A15 n16 s11.1 C17 ∧ I ≤ I' ∧ C17 ++ L = L' ∧ Knows 19 [(3, .slice A15 s11.1.length n16), (6, .slice A0_0 a0.length n0_0), (7, .int .i64 (a0.length : Int)), (8, .int .i64 s11.2)] t) (by kernel_rfl) ?_ hl10 ⟨none, 0, [], OwnS.nil _ _ _ _, (Imm.refl _), rfl, hK⟩
    rintro s11 o12 t I20 L' hb13 ⟨A15, n16, C17, hO18, hI14, rfl, hK19⟩
    unfold nflog_sets_l28 at hb13
    refine gk_at hK19 ?_
    refine gk_seq (by kernel_rfl) ?_
    refine gk_region (by kernel_rfl) ?_
    refine gl_pure 1 [3, 6, 7, 8, 9] (K' := [(3, .slice A15 s11.1.length n16), (6, .slice A0_0 a0.length n0_0), (7, .int .i64 (a0.length : Int)), (8, .int .i64 s11.2), (9, .bool (decide (s11.2 < (a0.length : Int))))]) (by kernel_rfl) ?_
    refine gl_atE (by kernel_rfl) ?_
    refine ge_seq ?_
    refine gk_seq (by kernel_rfl) ?_
    refine gk_cond (b := (decide (s11.2 < (a0.length : Int)))) (by kernel_rfl) (by kernel_rfl) (fun hc30 => ?_) (fun hc30 => ?_)
    · have hb13 := cond_t hc30 hb13
      refine gk_skip (by kernel_rfl) ?_
      refine ge_seq ?_
      refine gk_seq (by kernel_rfl) ?_
      refine gk_block (by kernel_rfl) ?_
      refine gk_seq (by kernel_rfl) ?_
      refine gk_region (by kernel_rfl) ?_
      obtain ⟨x31, hx32, hb13⟩ := bind_some hb13
      obtain ⟨p33, cs34, hR35, hA36, ha37⟩ := RepS.ixAt hx32 (hf0_0.mono hI14)
      have hi38 := ix_some hx32
      obtain ⟨A39, n40, rfl, hf41⟩ := sl_open hR35
      refine gl_indexAddrF (c := n0_0) (T' := 22) (e := 25) (xs := (.tmp 6)) (xi := (.tmp 8)) (kd := .i64) ha37 hi38.1 hi38.2.1 (by kernel_rfl) (by kernel_rfl) (by kernel_rfl) (by kernel_rfl) (by kernel_rfl) ?_
      refine gl_load (T' := 25) (xp := (.tmp 10)) (p := p33) (c := .slice A39 x31.length n40) (n := 1) (by kernel_rfl) (by kernel_rfl) (by kernel_rfl) (by kernel_rfl) hA36 ?_
      refine gl_pure 1 [3, 5, 6, 7, 8] (K' := [(3, .slice A15 s11.1.length n16), (5, .slice A39 x31.length n40), (6, .slice A0_0 a0.length n0_0), (7, .int .i64 (a0.length : Int)), (8, .int .i64 s11.2)]) (by kernel_rfl) ?_
      refine gl_atE (by kernel_rfl) ?_
      refine ge_seq ?_
      refine gk_region (by kernel_rfl) ?_
      refine gl_pure 2 [6, 7, 8, 12, 13] (K' := [(6, .slice A0_0 a0.length n0_0), (7, .int .i64 (a0.length : Int)), (8, .int .i64 s11.2), (12, .slice A15 s11.1.length n16), (13, .slice A39 x31.length n40)]) (by kernel_rfl) ?_
      obtain ⟨y42, hx43, hb13⟩ := bind_some hb13
      refine gl_call (by kernel_rfl) (slices_Clone_walk (r := y42) hf41 hx43 _) ?_
      rintro v I44 L45 hI46 ⟨A47, c48, C49, hO50, rfl, rfl⟩
      refine gl_rest (Tk.step (Upd.rmC _ _) (Tk.nil _)) (fun J51 hJ52 hC53 => ?_)
      have hf54 := (OwnS.rest hO50 hJ52 hC53.left)
      refine gl_buildSlice (T' := 22) (e := 25) (n := 1) (len := 1) (parts := #[(0, (.tmp 14))]) (l := [(0, .slice A47 y42.length c48)]) (cs := #[.slice A47 y42.length c48]) (by kernel_rfl) (by kernel_rfl) (by kernel_rfl) (by kernel_rfl) (by kernel_rfl) (fun g55 => ?_)
      have hO56 : OwnS (Kd.sl kS53) 25 J51 (some ⟨g55, 0, none⟩) 1 [y42] [(g55, .cells #[.slice A47 y42.length c48] 25)] := OwnS.lit (row_cons (l := [.slice A47 y42.length c48]) ⟨_, _, rfl, hf54⟩ (row_nil _ _)) rfl rfl rfl
      refine gl_reord (D := [(g55, .cells #[.slice A47 y42.length c48] 25)] ++ (C17 ++ L)) (Reord.refl _) ?_
      obtain ⟨zs59, hz60, hb13⟩ := bind_some hb13
      refine gl_append (xv := .slice (some ⟨g55, 0, none⟩) [y42].length 1) (d := (Kd.sl kS53)) (t := 22) (tx := 22) (e := 25) (s := (.tmp 12)) (x := (.tmp 15)) (xs := s11.1) (fun X => [(g55, .cells #[.slice A47 y42.length c48] 25)] ++ (X ++ L)) hz60 (by kernel_rfl) (by kernel_rfl) (by kernel_rfl) (by kernel_rfl) (by kernel_rfl) (by kernel_rfl) (fun X => (Upd.app _ (Upd.head _ X _))) (hO18.mono (Imm.trans hI46 hJ52)) (SrcOk.slice (c := 1) (e := 25) (n := 1) (OwnS.rd hO56 (Upd.selfC _ _)) (by kernel_rfl)) (fun A61 n62 C63 hO64 => ?_)
      refine gl_pure 1 [3, 6, 7, 8] (K' := [(3, .slice A61 zs59.length n62), (6, .slice A0_0 a0.length n0_0), (7, .int .i64 (a0.length : Int)), (8, .int .i64 s11.2)]) (by kernel_rfl) ?_
      refine gl_atE (by kernel_rfl) ?_
      refine ge_block_normal ?_
      refine ge_seq ?_
      refine gk_region (by kernel_rfl) ?_
      refine gl_pure 2 [3, 6, 7, 8] (K' := [(3, .slice A61 zs59.length n62), (6, .slice A0_0 a0.length n0_0), (7, .int .i64 (a0.length : Int)), (8, .int .i64 (IntKind.wrap .i64 (s11.2 + 1)))]) (by kernel_rfl) ?_
      refine gl_reord (D := C63 ++ L) (Reord.step (Upd.app _ (Upd.rmC _ _)) (Reord.skipC (Reord.refl _))) ?_
      refine gl_atE (by kernel_rfl) ?_
      obtain rfl := some_inj hb13
      exact ge_round fun t ht => ⟨A61, n62, C63, hO64, (Imm.trans (Imm.trans hI14 hI46) hJ52), rfl, ht.pick (l := [3, 6, 7, 8]) (by kernel_rfl)⟩
    · have hb13 := cond_f hc30 hb13
      refine gk_exit (by kernel_rfl) ?_
      refine ge_seq_exit ?_
      obtain rfl := some_inj hb13
      refine ge_round_out (fun hrr => ?_) (by intro h; cases h)
      obtain rfl := hrr
      refine ge_block_hit (by kernel_rfl) ?_
      exact ge_mid fun t ht => ⟨A15, n16, C17, hO18, hI14, rfl, ht.pick (l := [3]) (by kernel_rfl)⟩
  · rintro t I27 L' ⟨A22, n23, C24, hO25, hI21, rfl, hK26⟩
    refine ge_at hK26 ?_
    refine ge_seq ?_
    refine gk_seq (by kernel_rfl) ?_
    refine gk_region (by kernel_rfl) ?_
    refine gl_pure 2 [2] (K' := [(2, .slice A22 r9.length n23)]) (by kernel_rfl) ?_
    refine gl_atE (by kernel_rfl) ?_
    refine ge_seq ?_
    refine gk_ret (by kernel_rfl) ?_
    obtain rfl := some_inj hr
    exact ge_result trivial (ResOk.tmp (by kernel_rfl) ResOk.nil) hI21 ⟨A22, n23, C24, hO25, rfl, rfl⟩
/-! 18 nflog_own  -/
noncomputable def nflog_own (a0 : S23) : Option S23 :=
  Option.bind (nflog_sets a0.f3) fun (y3 : (List (List S53))) =>
  Option.bind (nflog_sets a0.f4) fun (y12 : (List (List S53))) =>
  some (⟨a0.f0, a0.f1, a0.f2, y3, y12⟩ : S23)
theorem nflog_own_walk {a0 : S23} {A0_3 : Option Addr} {n0_3 : Nat} {A0_4 : Option Addr} {n0_4 : Nat} {I : Imm} {r : S23}  (hf0_3 : RepS (Kd.sl kS53) I A0_3 n0_3 a0.f3) (hf0_4 : RepS (Kd.sl kS53) I A0_4 n0_4 a0.f4) (hr : nflog_own a0 = some r) (L : Own) :
    CallsTo Tryd.prog 18 #[.agg #[.string a0.f0, .string a0.f1, .int .i64 a0.f2, .slice A0_3 a0.f3.length n0_3, .slice A0_4 a0.f4.length n0_4]] I L (fun v I' L' => ∃ A0_3 c0_3 A0_4 c0_4, RepS (Kd.sl kS53) I' A0_3 c0_3 r.f3 ∧ RepS (Kd.sl kS53) I' A0_4 c0_4 r.f4 ∧ v = .agg #[.string r.f0, .string r.f1, .int .i64 r.f2, .slice A0_3 r.f3.length c0_3, .slice A0_4 r.f4.length c0_4] ∧ L = L') := by
  unfold nflog_own at hr
  refine callsTo_body (N := 12) Tryd.func18 (by kernel_rfl) (by kernel_rfl) (by kernel_rfl) ?_
  refine gk_pick [0] (K' := [(0, .agg #[.string a0.f0, .string a0.f1, .int .i64 a0.f2, .slice A0_3 a0.f3.length n0_3, .slice A0_4 a0.f4.length n0_4])]) (by kernel_rfl) ?_
  refine gk_seq (by kernel_rfl) ?_
  refine gk_region (by kernel_rfl) ?_
  refine gl_box (T' := 24) (x := (.tmp 0)) (v := .agg #[.string a0.f0, .string a0.f1, .int .i64 a0.f2, .slice A0_3 a0.f3.length n0_3, .slice A0_4 a0.f4.length n0_4]) (cs := #[.string a0.f0, .string a0.f1, .int .i64 a0.f2, .slice A0_3 a0.f3.length n0_3, .slice A0_4 a0.f4.length n0_4]) (by kernel_rfl) (by kernel_rfl) (by kernel_rfl) (by kernel_rfl) (fun g1 => ?_)
  refine gl_alloc (T' := 24) (cs := #[.string (⟨#[]⟩ : ByteArray), .string (⟨#[]⟩ : ByteArray), .int .i64 0, .slice none 0 0, .slice none 0 0]) (by kernel_rfl) (by kernel_rfl) (by kernel_rfl) (fun g2 => ?_)
  refine gl_atE (by kernel_rfl) ?_
  refine ge_seq ?_
  refine gk_seq (by kernel_rfl) ?_
  refine gk_draw 7 [(0, true), (1, true), (3, true), (4, true), (2, false), (6, true), (5, false)] [(g2, .cells #[.string (⟨#[]⟩ : ByteArray), .string (⟨#[]⟩ : ByteArray), .int .i64 0, .slice none 0 0, .slice none 0 0] 24), (g1, .cells #[.string a0.f0, .string a0.f1, .int .i64 a0.f2, .slice A0_3 a0.f3.length n0_3, .slice A0_4 a0.f4.length n0_4] 24)] (List.forall_mem_cons.2 ⟨List.mem_cons_self, (List.forall_mem_cons.2 ⟨(List.mem_cons_of_mem _ List.mem_cons_self), (fun p hp => by cases hp)⟩)⟩) (by kernel_rfl) (by kernel_rfl) (by kernel_rfl) ?_ (by kernel_rfl)
  refine gd_pure 1 [1, 2, 3] (K' := [(1, .pointer (some ⟨g1, 0, none⟩)), (2, .pointer (some ⟨g2, 0, none⟩)), (3, .pointer (some ⟨g1, 3, none⟩))]) (s' := [(1, true), (3, true), (4, true), (2, false), (6, true), (5, false)]) (CC.refl (List.forall_mem_cons.2 ⟨List.mem_cons_self, (List.forall_mem_cons.2 ⟨(List.mem_cons_of_mem _ List.mem_cons_self), (fun p hp => by cases hp)⟩)⟩)) (by kernel_rfl) ?_
  refine gd_q (v := .slice A0_3 a0.f3.length n0_3) (by kernel_rfl) (by kernel_rfl) (CC.refl (List.forall_mem_cons.2 ⟨List.mem_cons_self, (List.forall_mem_cons.2 ⟨(List.mem_cons_of_mem _ List.mem_cons_self), (fun p hp => by cases hp)⟩)⟩)) (fun I' L' T hC kk => gl_loadB (T' := 22) (xp := (.tmp 3)) (v := .slice A0_3 a0.f3.length n0_3) (g := g1) (off := 3) (cs := #[.string a0.f0, .string a0.f1, .int .i64 a0.f2, .slice A0_3 a0.f3.length n0_3, .slice A0_4 a0.f4.length n0_4]) (e := 24) (fz := (0, 0)) (by kernel_rfl) (by kernel_rfl) (by kernel_rfl) (hC.sub _ (List.mem_cons_of_mem _ List.mem_cons_self)) (by kernel_rfl) kk) ?_
  refine gd_pure 1 [1, 2, 4, 6] (K' := [(1, .pointer (some ⟨g1, 0, none⟩)), (2, .pointer (some ⟨g2, 0, none⟩)), (4, .slice A0_3 a0.f3.length n0_3), (6, .pointer (some ⟨g1, 4, none⟩))]) (s' := [(4, true), (2, false), (6, true), (5, false)]) (CC.refl (List.forall_mem_cons.2 ⟨List.mem_cons_self, (List.forall_mem_cons.2 ⟨(List.mem_cons_of_mem _ List.mem_cons_self), (fun p hp => by cases hp)⟩)⟩)) (by kernel_rfl) ?_
  refine gd_q (v := .slice A0_4 a0.f4.length n0_4) (by kernel_rfl) (by kernel_rfl) (CC.refl (List.forall_mem_cons.2 ⟨List.mem_cons_self, (List.forall_mem_cons.2 ⟨(List.mem_cons_of_mem _ List.mem_cons_self), (fun p hp => by cases hp)⟩)⟩)) (fun I' L' T hC kk => gl_loadB (T' := 22) (xp := (.tmp 6)) (v := .slice A0_4 a0.f4.length n0_4) (g := g1) (off := 4) (cs := #[.string a0.f0, .string a0.f1, .int .i64 a0.f2, .slice A0_3 a0.f3.length n0_3, .slice A0_4 a0.f4.length n0_4]) (e := 24) (fz := (0, 0)) (by kernel_rfl) (by kernel_rfl) (by kernel_rfl) (hC.sub _ (List.mem_cons_of_mem _ List.mem_cons_self)) (by kernel_rfl) kk) ?_
  refine gd_one (by kernel_rfl) ?_
  obtain ⟨y3, hx4, hr⟩ := bind_some hr
  refine gl_call (by kernel_rfl) (nflog_sets_walk (r := y3) hf0_3 hx4 _) ?_
  rintro v I5 L6 hI7 ⟨A8, c9, C10, hO11, rfl, rfl⟩
  refine gl_toD (by kernel_rfl) ⟨hI7, (List.forall_mem_cons.2 ⟨(List.mem_append_right _ List.mem_cons_self), (List.forall_mem_cons.2 ⟨(List.mem_append_right _ (List.mem_cons_of_mem _ List.mem_cons_self)), (fun p hp => by cases hp)⟩)⟩)⟩ ?_
  refine gd_pure 1 [1, 2, 5, 7, 9] (K' := [(1, .pointer (some ⟨g1, 0, none⟩)), (2, .pointer (some ⟨g2, 0, none⟩)), (5, .slice A8 y3.length c9), (7, .slice A0_4 a0.f4.length n0_4), (9, .pointer (some ⟨g1, 3, none⟩))]) (s' := [(5, false)]) (CC.refl (List.forall_mem_cons.2 ⟨(List.mem_append_right _ List.mem_cons_self), (List.forall_mem_cons.2 ⟨(List.mem_append_right _ (List.mem_cons_of_mem _ List.mem_cons_self)), (fun p hp => by cases hp)⟩)⟩)) (by kernel_rfl) ?_
  refine gd_one (by kernel_rfl) ?_
  obtain ⟨y12, hx13, hr⟩ := bind_some hr
  refine gl_call (by kernel_rfl) (nflog_sets_walk (r := y12) (hf0_4.mono hI7) hx13 _) ?_
  rintro v I14 L15 hI16 ⟨A17, c18, C19, hO20, rfl, rfl⟩
  refine gl_toD (by kernel_rfl) ⟨hI16, (List.forall_mem_cons.2 ⟨(List.mem_append_right _ (List.mem_append_right _ List.mem_cons_self)), (List.forall_mem_cons.2 ⟨(List.mem_append_right _ (List.mem_append_right _ (List.mem_cons_of_mem _ List.mem_cons_self))), (fun p hp => by cases hp)⟩)⟩)⟩ ?_
  refine gd_done ?_
  refine gl_storeB (T' := 22) (xp := (.tmp 9)) (xv := (.tmp 5)) (v := .slice A8 y3.length c9) (g := g1) (off := 3) (cs := #[.string a0.f0, .string a0.f1, .int .i64 a0.f2, .slice A0_3 a0.f3.length n0_3, .slice A0_4 a0.f4.length n0_4]) (cs' := #[.string a0.f0, .string a0.f1, .int .i64 a0.f2, .slice A8 y3.length c9, .slice A0_4 a0.f4.length n0_4]) (by kernel_rfl) (by kernel_rfl) (by kernel_rfl) (by kernel_rfl) (by kernel_rfl) (Upd.app _ (Upd.app _ (Upd.one _ (Upd.set _ _ _ _)))) ?_ (by kernel_rfl)
  refine gl_pure 1 [1, 2, 8, 10] (K' := [(1, .pointer (some ⟨g1, 0, none⟩)), (2, .pointer (some ⟨g2, 0, none⟩)), (8, .slice A17 y12.length c18), (10, .pointer (some ⟨g1, 4, none⟩))]) (by kernel_rfl) ?_
  refine gl_storeB (T' := 22) (xp := (.tmp 10)) (xv := (.tmp 8)) (v := .slice A17 y12.length c18) (g := g1) (off := 4) (cs := #[.string a0.f0, .string a0.f1, .int .i64 a0.f2, .slice A8 y3.length c9, .slice A0_4 a0.f4.length n0_4]) (cs' := #[.string a0.f0, .string a0.f1, .int .i64 a0.f2, .slice A8 y3.length c9, .slice A17 y12.length c18]) (by kernel_rfl) (by kernel_rfl) (by kernel_rfl) (by kernel_rfl) (by kernel_rfl) (Upd.app _ (Upd.app _ (Upd.one _ (Upd.set _ _ _ _)))) ?_ (by kernel_rfl)
  refine gl_atE (by kernel_rfl) ?_
  refine ge_seq ?_
  refine gk_seq (by kernel_rfl) ?_
  refine gk_region (by kernel_rfl) ?_
  refine gl_loadB (T' := 24) (xp := (.tmp 1)) (v := .agg #[.string a0.f0, .string a0.f1, .int .i64 a0.f2, .slice A8 y3.length c9, .slice A17 y12.length c18]) (g := g1) (off := 0) (cs := #[.string a0.f0, .string a0.f1, .int .i64 a0.f2, .slice A8 y3.length c9, .slice A17 y12.length c18]) (e := 24) (fz := (0, 0)) (by kernel_rfl) (by kernel_rfl) (by kernel_rfl) (List.mem_append_right _ (List.mem_append_right _ (List.mem_cons_of_mem _ List.mem_cons_self))) (by kernel_rfl) ?_
  refine gl_storeB (T' := 24) (xp := (.tmp 2)) (xv := (.tmp 11)) (v := .agg #[.string a0.f0, .string a0.f1, .int .i64 a0.f2, .slice A8 y3.length c9, .slice A17 y12.length c18]) (g := g2) (off := 0) (cs := #[.string (⟨#[]⟩ : ByteArray), .string (⟨#[]⟩ : ByteArray), .int .i64 0, .slice none 0 0, .slice none 0 0]) (cs' := #[.string a0.f0, .string a0.f1, .int .i64 a0.f2, .slice A8 y3.length c9, .slice A17 y12.length c18]) (by kernel_rfl) (by kernel_rfl) (by kernel_rfl) (by kernel_rfl) (by kernel_rfl) (Upd.app _ (Upd.app _ (Upd.set _ _ _ _))) ?_ (by kernel_rfl)
  refine gl_atE (by kernel_rfl) ?_
  refine ge_seq ?_
  refine gk_rest (Tk.step (Upd.rmC _ _) (Tk.step (Upd.rmC _ _) (Tk.step (Upd.rm1 _ _) (Tk.nil _)))) (fun J21 hJ22 hC23 => ?_)
  have hf24 := (OwnS.rest hO20 hJ22 hC23.left)
  have hf25 := (OwnS.rest (hO11.mono hI16) hJ22 hC23.right.left)
  have hf26 := hC23.right.right.left.blk
  refine gk_reord (D := L) (Reord.skip (Reord.refl _)) ?_
  refine gk_ret (by kernel_rfl) ?_
  obtain rfl := some_inj hr
  exact ge_result trivial (ResOk.cell (v := .agg #[.string a0.f0, .string a0.f1, .int .i64 a0.f2, .slice A8 y3.length c9, .slice A17 y12.length c18]) (by kernel_rfl) (loadR_agg (cs := [.string a0.f0, .string a0.f1, .int .i64 a0.f2, .slice A8 y3.length c9, .slice A17 y12.length c18]) (by kernel_rfl) (RunAt.take hf26 5)) ResOk.nil) (Imm.trans (Imm.trans hI7 hI16) hJ22) ⟨A8, c9, A17, c18, hf25, hf24, rfl, rfl⟩
/-! 16 nflog_Log_Find ('obj', 'imm', 'imm') -/
noncomputable def nflog_Log_Find (a0 : S45) (a1 : ByteArray) (a2 : ByteArray) : Option (S23 × Bool) :=
  Option.bind (nflog_list_find a0.f0 (⟨a1, a2⟩ : S59)) fun (y2 : Int × Bool) =>
  bif (!y2.2) then
  (some ((⟨(⟨#[]⟩ : ByteArray), (⟨#[]⟩ : ByteArray), 0, [], []⟩ : S23), false))
  else
  (Option.bind (ix a0.f0.f0 y2.1) fun (x12 : S76) =>
    Option.bind (nflog_own x12.f1) fun (y27 : S23) =>
    some (y27, true))
theorem nflog_Log_Find_walk {a0 : S45} {g0 : Nat} {T0 : TypeId} {A0_0 : Option Addr} {c0_0 : Nat} {C0_0 : Own} {a1 : ByteArray} {a2 : ByteArray} {I : Imm} {r : S23 × Bool}  (hO0_0 : OwnS kS76 77 I A0_0 c0_0 a0.f0.f0 C0_0) (hr : nflog_Log_Find a0 a1 a2 = some r) (L : Own) :
    CallsTo Tryd.prog 16 #[.pointer (some ⟨g0, 0, none⟩), .string a1, .string a2] I ((g0, .cells #[.slice A0_0 a0.f0.f0.length c0_0] T0) :: (C0_0 ++ L)) (fun v I' L' => ∃ A0_3 c0_3 A0_4 c0_4, RepS (Kd.sl kS53) I' A0_3 c0_3 r.1.f3 ∧ RepS (Kd.sl kS53) I' A0_4 c0_4 r.1.f4 ∧ v = .tuple #[.agg #[.string r.1.f0, .string r.1.f1, .int .i64 r.1.f2, .slice A0_3 r.1.f3.length c0_3, .slice A0_4 r.1.f4.length c0_4], .bool r.2] ∧ (g0, .cells #[.slice A0_0 a0.f0.f0.length c0_0] T0) :: (C0_0 ++ L) = L') := by
  unfold nflog_Log_Find at hr
  refine callsTo_body (N := 36) Tryd.func16 (by kernel_rfl) (by kernel_rfl) (by kernel_rfl) ?_
  refine gk_pick [0, 1, 2] (K' := [(0, .pointer (some ⟨g0, 0, none⟩)), (1, .string a1), (2, .string a2)]) (by kernel_rfl) ?_
  refine gk_seq (by kernel_rfl) ?_
  refine gk_region (by kernel_rfl) ?_
  refine gl_alloc (T' := 24) (cs := #[.string (⟨#[]⟩ : ByteArray), .string (⟨#[]⟩ : ByteArray), .int .i64 0, .slice none 0 0, .slice none 0 0]) (by kernel_rfl) (by kernel_rfl) (by kernel_rfl) (fun gb1 => ?_)
  refine gl_pure 1 [0, 1, 2, 6] (K' := [(0, .pointer (some ⟨g0, 0, none⟩)), (1, .string a1), (2, .string a2), (6, .pointer (some ⟨gb1, 0, none⟩))]) (by kernel_rfl) ?_
  refine gl_atE (by kernel_rfl) ?_
  refine ge_seq ?_
  refine gk_seq (by kernel_rfl) ?_
  refine gk_seq (by kernel_rfl) ?_
  refine gk_region (by kernel_rfl) ?_
  refine gl_pure 2 [0, 1, 2, 6, 11] (K' := [(0, .pointer (some ⟨g0, 0, none⟩)), (1, .string a1), (2, .string a2), (6, .pointer (some ⟨gb1, 0, none⟩)), (11, .bool false)]) (by kernel_rfl) ?_
  refine gl_atE (by kernel_rfl) ?_
  refine ge_seq ?_
  refine gk_cond (b := false) (by kernel_rfl) (by kernel_rfl) (fun h => by cases h) (fun _ => ?_)
  refine gk_skip (by kernel_rfl) ?_
  refine ge_seq ?_
  refine gk_seq (by kernel_rfl) ?_
  refine gk_region (by kernel_rfl) ?_
  refine gl_pure 6 [0, 6, 16, 19] (K' := [(0, .pointer (some ⟨g0, 0, none⟩)), (6, .pointer (some ⟨gb1, 0, none⟩)), (16, .pointer (some ⟨g0, 0, none⟩)), (19, .agg #[.string a1, .string a2])]) (by kernel_rfl) ?_
  obtain ⟨y2, hx3, hr⟩ := bind_some hr
  refine gl_reord (D := (g0, .cells #[.slice A0_0 a0.f0.f0.length c0_0] T0) :: (C0_0 ++ ((gb1, .cells #[.string (⟨#[]⟩ : ByteArray), .string (⟨#[]⟩ : ByteArray), .int .i64 0, .slice none 0 0, .slice none 0 0] 24) :: L))) (Reord.step1 (Upd.one _ (Upd.rm1 _ _)) (Reord.step (Upd.one _ (Upd.rmC _ _)) (Reord.step1 (Upd.rm1 _ _) (Reord.refl _)))) ?_
  refine gl_call (by kernel_rfl) (nflog_list_find_walk (r := y2) (g0 := g0) (T0 := T0) (A0_0 := A0_0) (c0_0 := c0_0) (C0_0 := C0_0) (a0 := a0.f0) hO0_0 hx3 _) ?_
  rintro v I4 L5 hI6 ⟨rfl, rfl⟩
  refine gl_pure 5 [0, 6, 8, 9] (K' := [(0, .pointer (some ⟨g0, 0, none⟩)), (6, .pointer (some ⟨gb1, 0, none⟩)), (8, .int .i64 y2.1), (9, .bool y2.2)]) (by kernel_rfl) ?_
  refine gl_atE (by kernel_rfl) ?_
  refine ge_seq ?_
  refine gk_seq (by kernel_rfl) ?_
  refine gk_seq (by kernel_rfl) ?_
  refine gk_region (by kernel_rfl) ?_
  refine gl_pure 2 [0, 6, 8, 24] (K' := [(0, .pointer (some ⟨g0, 0, none⟩)), (6, .pointer (some ⟨gb1, 0, none⟩)), (8, .int .i64 y2.1), (24, .bool (!y2.2))]) (by kernel_rfl) ?_
  refine gl_atE (by kernel_rfl) ?_
  refine ge_seq ?_
  refine gk_cond (b := (!y2.2)) (by kernel_rfl) (by kernel_rfl) (fun hc7 => ?_) (fun hc7 => ?_)
  · have hr := cond_t hc7 hr
    refine gk_seq (by kernel_rfl) ?_
    refine gk_region (by kernel_rfl) ?_
    refine gl_pure 1 [6, 25] (K' := [(6, .pointer (some ⟨gb1, 0, none⟩)), (25, .agg #[.string (⟨#[]⟩ : ByteArray), .string (⟨#[]⟩ : ByteArray), .int .i64 0, .slice none 0 0, .slice none 0 0])]) (by kernel_rfl) ?_
    refine gl_storeB (T' := 24) (xp := (.tmp 6)) (xv := (.tmp 25)) (v := .agg #[.string (⟨#[]⟩ : ByteArray), .string (⟨#[]⟩ : ByteArray), .int .i64 0, .slice none 0 0, .slice none 0 0]) (g := gb1) (off := 0) (cs := #[.string (⟨#[]⟩ : ByteArray), .string (⟨#[]⟩ : ByteArray), .int .i64 0, .slice none 0 0, .slice none 0 0]) (cs' := #[.string (⟨#[]⟩ : ByteArray), .string (⟨#[]⟩ : ByteArray), .int .i64 0, .slice none 0 0, .slice none 0 0]) (by kernel_rfl) (by kernel_rfl) (by kernel_rfl) (by kernel_rfl) (by kernel_rfl) (Upd.one _ (Upd.app _ (Upd.set _ _ _ _))) ?_ (by kernel_rfl)
    refine gl_pure 1 [6, 7] (K' := [(6, .pointer (some ⟨gb1, 0, none⟩)), (7, .bool false)]) (by kernel_rfl) ?_
    refine gl_atE (by kernel_rfl) ?_
    refine ge_seq ?_
    refine gk_rest (Tk.step (Upd.one _ (Upd.app _ (Upd.rm1 _ _))) (Tk.nil _)) (fun J8 hJ9 hC10 => ?_)
    have hf11 := hC10.left.blk
    refine gk_ret (by kernel_rfl) ?_
    refine ge_seq_ret ?_
    obtain rfl := some_inj hr
    exact ge_result trivial (ResOk.cell (v := .agg #[.string (⟨#[]⟩ : ByteArray), .string (⟨#[]⟩ : ByteArray), .int .i64 0, .slice none 0 0, .slice none 0 0]) (by kernel_rfl) (loadR_agg (cs := [.string (⟨#[]⟩ : ByteArray), .string (⟨#[]⟩ : ByteArray), .int .i64 0, .slice none 0 0, .slice none 0 0]) (by kernel_rfl) (RunAt.take hf11 5)) (ResOk.tmp (by kernel_rfl) ResOk.nil)) (Imm.trans hI6 hJ9) ⟨none, 0, none, 0, RepS.nil _ _, RepS.nil _ _, rfl, rfl⟩
  · have hr := cond_f hc7 hr
    refine gk_skip (by kernel_rfl) ?_
    refine ge_seq ?_
    refine gk_seq (by kernel_rfl) ?_
    refine gk_region (by kernel_rfl) ?_
    refine gl_pure 4 [6, 8, 29] (K' := [(6, .pointer (some ⟨gb1, 0, none⟩)), (8, .int .i64 y2.1), (29, .pointer (some ⟨g0, 0, none⟩))]) (by kernel_rfl) ?_
    refine gl_loadB (T' := 42) (xp := (.tmp 29)) (v := .slice A0_0 a0.f0.f0.length c0_0) (g := g0) (off := 0) (cs := #[.slice A0_0 a0.f0.f0.length c0_0]) (e := T0) (fz := (0, 0)) (by kernel_rfl) (by kernel_rfl) (by kernel_rfl) List.mem_cons_self (by kernel_rfl) ?_
    refine gl_pure 1 [6, 30, 31] (K' := [(6, .pointer (some ⟨gb1, 0, none⟩)), (30, .slice A0_0 a0.f0.f0.length c0_0), (31, .int .i64 y2.1)]) (by kernel_rfl) ?_
    obtain ⟨x12, hx13, hr⟩ := bind_some hr
    refine gl_indexAddrW (d := kS76) (c := c0_0) (T' := 42) (e := 77) (xs := (.tmp 30)) (xi := (.tmp 31)) (kd := .i64) hx13 (hO0_0.mono hI6) (Upd.one _ (Upd.selfC _ _)) (by kernel_rfl) (by kernel_rfl) (by kernel_rfl) (by kernel_rfl) (by kernel_rfl) (fun p14 cs15 hR16 hA17 hp26 => ?_)
    obtain ⟨A20, n21, A23, n24, hf22, hf25, rfl⟩ := kS76_open hR16
    refine gl_pure 1 [6, 33] (K' := [(6, .pointer (some ⟨gb1, 0, none⟩)), (33, .pointer (some (p14.add 2)))]) (by kernel_rfl) ?_
    refine gl_loadOA (T' := 24) (xp := (.tmp 33)) (p := (p14.add 2)) (cs := [.string x12.f1.f0, .string x12.f1.f1, .int .i64 x12.f1.f2, .slice A20 x12.f1.f3.length n21, .slice A23 x12.f1.f4.length n24]) (by kernel_rfl) (by kernel_rfl) (by kernel_rfl) (by kernel_rfl) ((hA17.drop 2).take 5) ?_
    obtain ⟨y27, hx28, hr⟩ := bind_some hr
    refine gl_call (by kernel_rfl) (nflog_own_walk (r := y27) hf22 hf25 hx28 _) ?_
    rintro v I29 L30 hI31 ⟨A32, c33, A34, c35, hf36, hf37, rfl, rfl⟩
    refine gl_storeB (T' := 24) (xp := (.tmp 6)) (xv := (.tmp 35)) (v := .agg #[.string y27.f0, .string y27.f1, .int .i64 y27.f2, .slice A32 y27.f3.length c33, .slice A34 y27.f4.length c35]) (g := gb1) (off := 0) (cs := #[.string (⟨#[]⟩ : ByteArray), .string (⟨#[]⟩ : ByteArray), .int .i64 0, .slice none 0 0, .slice none 0 0]) (cs' := #[.string y27.f0, .string y27.f1, .int .i64 y27.f2, .slice A32 y27.f3.length c33, .slice A34 y27.f4.length c35]) (by kernel_rfl) (by kernel_rfl) (by kernel_rfl) (by kernel_rfl) (by kernel_rfl) (Upd.one _ (Upd.app _ (Upd.set _ _ _ _))) ?_ (by kernel_rfl)
    refine gl_pure 1 [6, 7] (K' := [(6, .pointer (some ⟨gb1, 0, none⟩)), (7, .bool true)]) (by kernel_rfl) ?_
    refine gl_atE (by kernel_rfl) ?_
    refine ge_seq ?_
    refine gk_rest (Tk.step (Upd.one _ (Upd.app _ (Upd.rm1 _ _))) (Tk.nil _)) (fun J38 hJ39 hC40 => ?_)
    have hf41 := hC40.left.blk
    refine gk_ret (by kernel_rfl) ?_
    obtain rfl := some_inj hr
    exact ge_result trivial (ResOk.cell (v := .agg #[.string y27.f0, .string y27.f1, .int .i64 y27.f2, .slice A32 y27.f3.length c33, .slice A34 y27.f4.length c35]) (by kernel_rfl) (loadR_agg (cs := [.string y27.f0, .string y27.f1, .int .i64 y27.f2, .slice A32 y27.f3.length c33, .slice A34 y27.f4.length c35]) (by kernel_rfl) (RunAt.take hf41 5)) (ResOk.tmp (by kernel_rfl) ResOk.nil)) (Imm.trans (Imm.trans hI6 hI31) hJ39) ⟨A32, c33, A34, c35, (hf36.mono hJ39), (hf37.mono hJ39), rfl, rfl⟩
/-! 8 nflog_Log_Len ('obj',) -/
noncomputable def nflog_Log_Len (a0 : S45) : Int :=
  (a0.f0.f0.length : Int)
theorem nflog_Log_Len_walk {a0 : S45} {g0 : Nat} {T0 : TypeId} {A0_0 : Option Addr} {c0_0 : Nat} {C0_0 : Own} {I : Imm} {r : Int}  (hO0_0 : OwnS kS76 77 I A0_0 c0_0 a0.f0.f0 C0_0) (hr : nflog_Log_Len a0 = r) (L : Own) :
    CallsTo Tryd.prog 8 #[.pointer (some ⟨g0, 0, none⟩)] I ((g0, .cells #[.slice A0_0 a0.f0.f0.length c0_0] T0) :: (C0_0 ++ L)) (fun v I' L' => v = .int .i64 r ∧ (g0, .cells #[.slice A0_0 a0.f0.f0.length c0_0] T0) :: (C0_0 ++ L) = L') := by
  replace hr : some (nflog_Log_Len a0) = some r := congrArg some hr
  unfold nflog_Log_Len at hr
  refine callsTo_body (N := 11) Tryd.func8 (by kernel_rfl) (by kernel_rfl) (by kernel_rfl) ?_
  refine gk_pick [0] (K' := [(0, .pointer (some ⟨g0, 0, none⟩))]) (by kernel_rfl) ?_
  refine gk_seq (by kernel_rfl) ?_
  refine gk_region (by kernel_rfl) ?_
  refine gl_pure 1 [0] (K' := [(0, .pointer (some ⟨g0, 0, none⟩))]) (by kernel_rfl) ?_
  refine gl_atE (by kernel_rfl) ?_
  refine ge_seq ?_
  refine gk_seq (by kernel_rfl) ?_
  refine gk_seq (by kernel_rfl) ?_
  refine gk_region (by kernel_rfl) ?_
  refine gl_pure 2 [0, 4] (K' := [(0, .pointer (some ⟨g0, 0, none⟩)), (4, .bool false)]) (by kernel_rfl) ?_
  refine gl_atE (by kernel_rfl) ?_
  refine ge_seq ?_
  refine gk_cond (b := false) (by kernel_rfl) (by kernel_rfl) (fun h => by cases h) (fun _ => ?_)
  refine gk_skip (by kernel_rfl) ?_
  refine ge_seq ?_
  refine gk_seq (by kernel_rfl) ?_
  refine gk_region (by kernel_rfl) ?_
  refine gl_pure 4 [8] (K' := [(8, .pointer (some ⟨g0, 0, none⟩))]) (by kernel_rfl) ?_
  refine gl_loadB (T' := 42) (xp := (.tmp 8)) (v := .slice A0_0 a0.f0.f0.length c0_0) (g := g0) (off := 0) (cs := #[.slice A0_0 a0.f0.f0.length c0_0]) (e := T0) (fz := (0, 0)) (by kernel_rfl) (by kernel_rfl) (by kernel_rfl) List.mem_cons_self (by kernel_rfl) ?_
  refine gl_pure 2 [2] (K' := [(2, .int .i64 (a0.f0.f0.length : Int))]) (by kernel_rfl) ?_
  refine gl_atE (by kernel_rfl) ?_
  refine ge_seq ?_
  refine gk_ret (by kernel_rfl) ?_
  obtain rfl := some_inj hr
  exact ge_result trivial (ResOk.tmp (by kernel_rfl) ResOk.nil) (Imm.refl _) ⟨rfl, rfl⟩
set_option maxHeartbeats 1000000 in
theorem slices_Insert_35_walk {a0 : List S76} {A : Option Addr} {c : Nat} {C : Own} {i : Int} {y : S76} {gv : Nat} {vs : List Value} {I : Imm} {r : List S76} (hO : OwnS kS76 77 I A c a0 C) (hy : kS76.R I y vs) (hr : linsert a0 i y = some r) (L : Own) :
    CallsTo Tryd.prog 35 #[.slice A a0.length c, .int .i64 i, .slice (some ⟨gv, 0, none⟩) 1 1] I (C ++ ((gv, .cells vs.toArray 77) :: L)) (fun v I' L' => ∃ A' c' C', OwnS kS76 77 I' A' c' r C' ∧ v = .slice A' r.length c' ∧ C' ++ L = L') := by
  obtain ⟨h0, h1, hmx, rfl⟩ := linsert_some hr
  have hmx' : a0.length + 1 ≤ 2147483648 := hmx
  obtain ⟨q, rfl⟩ : ∃ q : Nat, i = q := ⟨i.toNat, by omega⟩
  have hq : q ≤ a0.length := by omega
  have hlc := hO.lenc
  have w1 : IntKind.wrap .i64 ((a0.length : Int) + 1) = (a0.length + 1 : Nat) := by rw [wrap64 (by omega) (by omega)]; omega
  have w2 : IntKind.wrap .i64 ((q : Int) + 1) = (q + 1 : Nat) := by rw [wrap64 (by omega) (by omega)]; omega
  have w3 : IntKind.wrap .i64 (((a0.length + 1 : Nat) : Int) - (q : Int)) = (a0.length + 1 - q : Nat) := by rw [wrap64 (by omega) (by omega)]; omega
  have hvl : vs.length = 7 := kS76.len hy
  have hvo : ∀ v ∈ vs, v.oneCell' = true := kS76.one hy
  refine callsTo_body (N := 95) Tryd.func35 (by kernel_rfl) (by kernel_rfl) (by kernel_rfl) ?_
  refine gk_pick [0, 1, 2] (K' := [(0, .slice A a0.length c), (1, .int .i64 q), (2, .slice (some ⟨gv, 0, none⟩) 1 1)]) (by kernel_rfl) ?_
  refine gk_sr (by kernel_rfl) (by kernel_rfl) ?_
  refine gl_pure 1 [0, 1, 2] (K' := [(0, .slice A a0.length c), (1, .int .i64 q), (2, .slice (some ⟨gv, 0, none⟩) 1 1)]) (by kernel_rfl) ?_
  refine gl_toC (by kernel_rfl) ?_
  refine gk_sr (by kernel_rfl) (by kernel_rfl) ?_
  refine gl_pure 2 [0, 1, 2, 10, 11] (K' := [(0, .slice A a0.length c), (1, .int .i64 q), (2, .slice (some ⟨gv, 0, none⟩) 1 1), (10, .slice A a0.length c), (11, .int .i64 q)]) (by kernel_rfl) ?_
  refine gl_sliceV (T' := 42) (e := 77) (n := 7) (A := A) (len := a0.length) (c := c) (a := q) (b := (a0.length : Int)) (xs := .tmp 10) (lo := some (.tmp 11)) (hi := none) (by omega) (by omega) (by omega) (by kernel_rfl) (by kernel_rfl) (by kernel_rfl) (by kernel_rfl) (by kernel_rfl) (by kernel_rfl) rfl ?_
  refine gl_pick [0, 1, 2] (K' := [(0, .slice A a0.length c), (1, .int .i64 q), (2, .slice (some ⟨gv, 0, none⟩) 1 1)]) (by kernel_rfl) ?_
  refine gl_toC (by kernel_rfl) ?_
  refine gk_sr (by kernel_rfl) (by kernel_rfl) ?_
  refine gl_pure 3 [0, 1, 2, 7] (K' := [(0, .slice A a0.length c), (1, .int .i64 q), (2, .slice (some ⟨gv, 0, none⟩) 1 1), (7, .int .i64 1)]) (by kernel_rfl) ?_
  refine gl_toC (by kernel_rfl) ?_
  refine gk_seq (by kernel_rfl) ?_
  refine gk_sr (by kernel_rfl) (by kernel_rfl) ?_
  refine gl_pure 2 [0, 1, 2, 7, 16] (K' := [(0, .slice A a0.length c), (1, .int .i64 q), (2, .slice (some ⟨gv, 0, none⟩) 1 1), (7, .int .i64 1), (16, .bool false)]) (by kernel_rfl) ?_
  refine gl_toC (by kernel_rfl) ?_
  refine gk_cond (b := false) (by kernel_rfl) (by kernel_rfl) (fun h => by cases h) (fun _ => ?_)
  refine gk_skip (by kernel_rfl) ?_
  refine ge_seq ?_
  refine gk_sr (by kernel_rfl) (by kernel_rfl) ?_
  refine gl_pure 3 [0, 1, 2, 7, 8] (K' := [(0, .slice A a0.length c), (1, .int .i64 q), (2, .slice (some ⟨gv, 0, none⟩) 1 1), (7, .int .i64 1), (8, .int .i64 a0.length)]) (by kernel_rfl) ?_
  refine gl_toC (by kernel_rfl) ?_
  refine gk_seq (by kernel_rfl) ?_
  refine gk_sr (by kernel_rfl) (by kernel_rfl) ?_
  refine gl_pure 3 [0, 1, 2, 7, 8, 22] (K' := [(0, .slice A a0.length c), (1, .int .i64 q), (2, .slice (some ⟨gv, 0, none⟩) 1 1), (7, .int .i64 1), (8, .int .i64 a0.length), (22, .bool ((q : Int) == (a0.length : Int)))]) (by kernel_rfl) ?_
  refine gl_toC (by kernel_rfl) ?_
  have hrow1 : RowAt kS76 I [y] (fun j => vs[j]?) := by have := row_cons hy (row_nil kS76 I); simpa using this
  have hlit : OwnS kS76 77 I (some ⟨gv, 0, none⟩) 1 [y] [(gv, .cells vs.toArray 77)] := OwnS.lit (by simpa using hrow1) rfl (by simp [hvl]; rfl) rfl
  refine gk_cond (b := ((q : Int) == (a0.length : Int))) (by kernel_rfl) (by kernel_rfl) (fun hc => ?_) (fun hc => ?_)
  · have hqe : q = a0.length := by have := eq_of_beq hc; omega
    have hz : app a0 [y] = some (a0 ++ [y]) := by unfold app maxLen'; rw [if_pos (by simp; omega)]
    have hres : a0.take q ++ y :: a0.drop q = a0 ++ [y] := by rw [hqe]; simp
    refine gk_sr (by kernel_rfl) (by kernel_rfl) ?_
    refine gl_pure 2 [23, 24] (K' := [(23, .slice A a0.length c), (24, .slice (some ⟨gv, 0, none⟩) 1 1)]) (by kernel_rfl) ?_
    refine gl_append (xv := .slice (some ⟨gv, 0, none⟩) 1 1) (d := kS76) (t := 42) (tx := 42) (e := 77) (s := .tmp 23) (x := .tmp 24) (xs := a0) (fun X => X ++ ((gv, .cells vs.toArray 77) :: L)) hz (by kernel_rfl) (by kernel_rfl) (by kernel_rfl) (by kernel_rfl) (by kernel_rfl) (by kernel_rfl) (fun X => Upd.head _ X _) hO (SrcOk.slice (c := 1) (e := 77) (n := 7) (OwnS.rd hlit (Upd.app _ (Upd.head _ _ _))) (by kernel_rfl)) (fun A' c' C' hO' => ?_)
    refine gl_pure 1 [6] (K' := [(6, .slice A' (a0 ++ [y]).length c')]) (by kernel_rfl) ?_
    refine gl_reord (D := C' ++ L) (Reord.step (Upd.rmC _ _) (Reord.skip (Reord.refl _))) ?_
    refine gl_toC (by kernel_rfl) ?_
    refine gk_ret (by kernel_rfl) ?_
    repeat (refine ge_seq_ret ?_)
    exact ge_result trivial (ResOk.tmp (by kernel_rfl) ResOk.nil) (Imm.refl _) ⟨A', c', C', by rw [Int.toNat_natCast, hres]; exact hO', by rw [Int.toNat_natCast, hres]; rfl, rfl⟩
  have hne : ¬ ((q : Int) = (a0.length : Int)) := by simpa using hc
  have hlt : q < a0.length := by omega
  rcases hO with ⟨rfl, _, _⟩ | ⟨g, cells, fz, rfl, rfl, hfz, hlc', hcs, hrow, _⟩
  · simp at hlt
  have hn : kS76.n = 7 := rfl
  rw [hn] at hcs
  refine gk_skip (by kernel_rfl) ?_
  refine ge_seq ?_
  refine gk_seq (by kernel_rfl) ?_
  refine gk_sr (by kernel_rfl) (by kernel_rfl) ?_
  refine gl_pure 6 [0, 1, 2, 7, 8, 31] (K' := [(0, .slice (some ⟨g, 0, none⟩) a0.length c), (1, .int .i64 q), (2, .slice (some ⟨gv, 0, none⟩) 1 1), (7, .int .i64 1), (8, .int .i64 a0.length), (31, .bool (decide (IntKind.wrap .i64 ((a0.length : Int) + 1) > (c : Int))))]) (by kernel_rfl) ?_
  refine gl_toC (by kernel_rfl) ?_
  refine gk_cond (b := decide (IntKind.wrap .i64 ((a0.length : Int) + 1) > (c : Int))) (by kernel_rfl) (by kernel_rfl) (fun hc => ?_) (fun hc => ?_)
  · -- there is no room
    have hgt : c < a0.length + 1 := by have := of_decide_eq_true hc; rw [w1] at this; omega
    refine gk_sr (by kernel_rfl) (by kernel_rfl) ?_
    refine gl_pure 2 [0, 1, 2, 7, 8, 32, 33] (K' := [(0, .slice (some ⟨g, 0, none⟩) a0.length c), (1, .int .i64 q), (2, .slice (some ⟨gv, 0, none⟩) 1 1), (7, .int .i64 1), (8, .int .i64 a0.length), (32, .slice (some ⟨g, 0, none⟩) a0.length c), (33, .int .i64 q)]) (by kernel_rfl) ?_
    refine gl_sliceV (T' := 42) (e := 77) (n := 7) (A := some ⟨g, 0, none⟩) (len := a0.length) (c := c) (a := 0) (b := q) (xs := .tmp 32) (lo := none) (hi := some (.tmp 33)) (by omega) (by omega) (by omega) (by kernel_rfl) (by kernel_rfl) (by kernel_rfl) (by kernel_rfl) (by kernel_rfl) (by kernel_rfl) (v := .slice (some ⟨g, 0, none⟩) q c) (by rw [show ((0 : Int).toNat) = 0 from rfl, head_eq (by omega)]; simp) ?_
    refine gl_pure 5 [0, 1, 2, 7, 34, 39] (K' := [(0, .slice (some ⟨g, 0, none⟩) a0.length c), (1, .int .i64 q), (2, .slice (some ⟨gv, 0, none⟩) 1 1), (7, .int .i64 1), (34, .slice (some ⟨g, 0, none⟩) q c), (39, .int .i64 (IntKind.wrap .i64 (IntKind.wrap .i64 ((a0.length : Int) + 1) - (q : Int))))]) (by kernel_rfl) ?_
    rw [w1, w3]
    refine gl_appendZ (g := g) (i := q) (cnt := a0.length + 1 - q) (c := c) (size := 7) (t := 42) (tx := 3) (e := 77) (s := .tmp 34) (x := .tmp 39) (cells := cells) (e' := 77) (fz := fz) (kx := .i64) (by kernel_rfl) (by kernel_rfl) (by kernel_rfl) (by kernel_rfl) (by kernel_rfl) (by kernel_rfl) (by kernel_rfl) (by omega) (by omega) (by unfold maxLen'; omega) List.mem_cons_self (by rw [hcs]; exact Nat.mul_le_mul_right _ (by omega)) (fun g2 cells2 c2 hc2 hs2 heq => ?_)
    have e9 : q + (a0.length + 1 - q) = a0.length + 1 := by omega
    rw [e9] at hc2 ⊢
    refine gl_pure 1 [0, 1, 2, 7, 9] (K' := [(0, .slice (some ⟨g, 0, none⟩) a0.length c), (1, .int .i64 q), (2, .slice (some ⟨gv, 0, none⟩) 1 1), (7, .int .i64 1), (9, .slice (some ⟨g2, 0, none⟩) (a0.length + 1) c2)]) (by kernel_rfl) ?_
    refine gl_toC (by kernel_rfl) ?_
    refine gk_sr (by kernel_rfl) (by kernel_rfl) ?_
    refine gl_pure 2 [0, 1, 2, 7, 9, 41, 42] (K' := [(0, .slice (some ⟨g, 0, none⟩) a0.length c), (1, .int .i64 q), (2, .slice (some ⟨gv, 0, none⟩) 1 1), (7, .int .i64 1), (9, .slice (some ⟨g2, 0, none⟩) (a0.length + 1) c2), (41, .slice (some ⟨g2, 0, none⟩) (a0.length + 1) c2), (42, .int .i64 q)]) (by kernel_rfl) ?_
    refine gl_sliceV (T' := 42) (e := 77) (n := 7) (A := some ⟨g2, 0, none⟩) (len := a0.length + 1) (c := c2) (a := q) (b := ((a0.length + 1 : Nat) : Int)) (xs := .tmp 41) (lo := some (.tmp 42)) (hi := none) (by omega) (by omega) (by omega) (by kernel_rfl) (by kernel_rfl) (by kernel_rfl) (by kernel_rfl) (by kernel_rfl) (by kernel_rfl) (v := .slice (some ⟨g2, q * 7, none⟩) (a0.length + 1 - q) (c2 - q)) (by rw [Int.toNat_natCast, Int.toNat_natCast, head_eq (by omega)]) ?_
    refine gl_pure 1 [0, 1, 7, 9, 43, 44] (K' := [(0, .slice (some ⟨g, 0, none⟩) a0.length c), (1, .int .i64 q), (7, .int .i64 1), (9, .slice (some ⟨g2, 0, none⟩) (a0.length + 1) c2), (43, .slice (some ⟨g2, q * 7, none⟩) (a0.length + 1 - q) (c2 - q)), (44, .slice (some ⟨gv, 0, none⟩) 1 1)]) (by kernel_rfl) ?_
    have hfit1 : q * 7 + vs.length ≤ cells2.size := by
      rw [hs2, hvl]
      have : (q + 1) * 7 ≤ c2 * 7 := Nat.mul_le_mul_right _ (by omega)
      omega
    refine gl_copyB (g := g2) (off := q * 7) (dLen := a0.length + 1 - q) (dCap := c2 - q) (sLen := 1) (m := 1) (size := 7) (tD := 42) (tS := 42) (e := 77) (sv := .slice (some ⟨gv, 0, none⟩) 1 1) (dx := .tmp 43) (sx := .tmp 44) (cells := cells2) (e' := 77) (fz := (0, 0)) (l := vs) (by kernel_rfl) (by kernel_rfl) (by kernel_rfl) (by kernel_rfl) (by kernel_rfl) (fun W => rfl) (Nat.min_eq_left (by omega)) (fun W hW => run_firstCells_some W 7 1 ⟨gv, 0, none⟩ 1 1 vs (by rw [hvl]) (fun j v hj => by
      have hm : W.heap[gv]? = some (.cells vs.toArray 77) := hW.mem (List.mem_cons_of_mem _ (List.mem_cons_of_mem _ List.mem_cons_self))
      have hadd : (⟨gv, 0, none⟩ : Addr).add j = ⟨gv, j, none⟩ := by unfold Addr.add; split <;> simp_all
      rw [hadd]; simp only [World.cell?, hm]; simpa using hj)) (Upd.set _ _ _ _) (FreeOf.zero _) hfit1 hvo ?_
    refine gl_pick [0, 1, 7, 9] (K' := [(0, .slice (some ⟨g, 0, none⟩) a0.length c), (1, .int .i64 q), (7, .int .i64 1), (9, .slice (some ⟨g2, 0, none⟩) (a0.length + 1) c2)]) (by kernel_rfl) ?_
    refine gl_toC (by kernel_rfl) ?_
    refine gk_seq (by kernel_rfl) ?_
    refine gk_draw 8 [(0, true), (1, true), (2, true), (3, true), (4, true), (5, true), (6, true), (7, true)] [] (fun p hp => by cases hp) (by kernel_rfl) (by kernel_rfl) (by kernel_rfl) ?_ (by kernel_rfl)
    refine gd_pure 4 [0, 1, 9, 46, 49] (K' := [(0, .slice (some ⟨g, 0, none⟩) a0.length c), (1, .int .i64 q), (9, .slice (some ⟨g2, 0, none⟩) (a0.length + 1) c2), (46, .slice (some ⟨g2, 0, none⟩) (a0.length + 1) c2), (49, .int .i64 (IntKind.wrap .i64 ((q : Int) + 1)))]) (s' := [(4, true), (5, true), (6, true), (7, true)]) (CC.refl (fun p hp => by cases hp)) (by kernel_rfl) ?_
    rw [w2]
    refine gd_q (v := .slice (some ⟨g2, (q + 1) * 7, none⟩) (a0.length - q) (c2 - (q + 1))) (by kernel_rfl) (by kernel_rfl) (CC.refl (fun p hp => by cases hp)) (fun I' L' T hC kk => gl_sliceV (T' := 42) (e := 77) (n := 7) (A := some ⟨g2, 0, none⟩) (len := a0.length + 1) (c := c2) (a := ((q + 1 : Nat) : Int)) (b := ((a0.length + 1 : Nat) : Int)) (xs := .tmp 46) (lo := some (.tmp 49)) (hi := none) (by omega) (by omega) (by omega) (by kernel_rfl) (by kernel_rfl) (by kernel_rfl) (by kernel_rfl) (by kernel_rfl) (by kernel_rfl) (by rw [Int.toNat_natCast, Int.toNat_natCast, head_eq (by omega), show a0.length + 1 - (q + 1) = a0.length - q from by omega]) kk) ?_
    refine gd_pure 2 [9, 50, 51, 52] (K' := [(9, .slice (some ⟨g2, 0, none⟩) (a0.length + 1) c2), (50, .slice (some ⟨g2, (q + 1) * 7, none⟩) (a0.length - q) (c2 - (q + 1))), (51, .slice (some ⟨g, 0, none⟩) a0.length c), (52, .int .i64 q)]) (s' := [(7, true)]) (CC.refl (fun p hp => by cases hp)) (by kernel_rfl) ?_
    refine gd_q (v := .slice (some ⟨g, q * 7, none⟩) (a0.length - q) (c - q)) (by kernel_rfl) (by kernel_rfl) (CC.refl (fun p hp => by cases hp)) (fun I' L' T hC kk => gl_sliceV (T' := 42) (e := 77) (n := 7) (A := some ⟨g, 0, none⟩) (len := a0.length) (c := c) (a := q) (b := (a0.length : Int)) (xs := .tmp 51) (lo := some (.tmp 52)) (hi := none) (by omega) (by omega) (by omega) (by kernel_rfl) (by kernel_rfl) (by kernel_rfl) (by kernel_rfl) (by kernel_rfl) (by kernel_rfl) (by rw [Int.toNat_natCast, Int.toNat_natCast, head_eq (by omega)]) kk) ?_
    refine gd_done ?_
    have hll : ((cells.toList.drop (q * 7)).take ((a0.length - q) * 7)).length = (a0.length - q) * 7 := by
      rw [List.length_take, List.length_drop, Array.length_toList (xs := cells), hcs]
      have e1 : (a0.length - q) * 7 + q * 7 = a0.length * 7 := by rw [← Nat.add_mul]; congr 1; omega
      have e2 := Nat.mul_le_mul_right 7 hlc'
      omega
    have hlg : ∀ j, j < (a0.length - q) * 7 → ((cells.toList.drop (q * 7)).take ((a0.length - q) * 7))[j]? = cells[q * 7 + j]? := fun j hj => by
      rw [List.getElem?_take, if_pos hj, List.getElem?_drop, Array.getElem?_toList]
    have hone : ∀ v ∈ (cells.toList.drop (q * 7)).take ((a0.length - q) * 7), v.oneCell' = true := row_one hrow hcs hlc' hn
    have hfit2 : (q + 1) * 7 + ((cells.toList.drop (q * 7)).take ((a0.length - q) * 7)).length ≤ (putSeg cells2 (q * 7) vs).size := by
      rw [hll, putSeg_size, hs2]
      have e1 : (q + 1) * 7 + (a0.length - q) * 7 = (a0.length + 1) * 7 := by rw [← Nat.add_mul]; congr 1; omega
      have e2 := Nat.mul_le_mul_right 7 hc2
      omega
    refine gl_copyB (g := g2) (off := (q + 1) * 7) (dLen := a0.length - q) (dCap := c2 - (q + 1)) (sLen := a0.length - q) (m := a0.length - q) (size := 7) (tD := 42) (tS := 42) (e := 77) (sv := .slice (some ⟨g, q * 7, none⟩) (a0.length - q) (c - q)) (dx := .tmp 50) (sx := .tmp 53) (cells := putSeg cells2 (q * 7) vs) (e' := 77) (fz := (0, 0)) (l := (cells.toList.drop (q * 7)).take ((a0.length - q) * 7)) (by kernel_rfl) (by kernel_rfl) (by kernel_rfl) (by kernel_rfl) (by kernel_rfl) (fun W => rfl) (Nat.min_self _) (fun W hW => run_firstCells_some W 7 (a0.length - q) ⟨g, q * 7, none⟩ _ _ _ hll (fun j v hj => by
      have hm : W.heap[g]? = some (.cells cells 77 fz) := hW.mem (List.mem_cons_of_mem _ List.mem_cons_self)
      have hjl : j < (a0.length - q) * 7 := by rw [← hll]; exact (List.getElem?_eq_some_iff.1 hj).1
      rw [hlg j hjl] at hj
      have hadd : (⟨g, q * 7, none⟩ : Addr).add j = ⟨g, q * 7 + j, none⟩ := by
        unfold Addr.add; split
        · rename_i h; rw [h]; rfl
        · rfl
      rw [hadd]; simp only [World.cell?, hm]; simpa using hj)) (Upd.set _ _ _ _) (FreeOf.zero _) hfit2 hone ?_
    refine gl_pick [9] (K' := [(9, .slice (some ⟨g2, 0, none⟩) (a0.length + 1) c2)]) (by kernel_rfl) ?_
    refine gl_atE (by kernel_rfl) ?_
    refine ge_seq ?_
    refine gk_sr (by kernel_rfl) (by kernel_rfl) ?_
    refine gl_pure 2 [6] (K' := [(6, .slice (some ⟨g2, 0, none⟩) (a0.length + 1) c2)]) (by kernel_rfl) ?_
    refine gl_reord (D := [(g2, .cells (putSeg (putSeg cells2 (q * 7) vs) ((q + 1) * 7) ((cells.toList.drop (q * 7)).take ((a0.length - q) * 7))) 77)] ++ L) (Reord.step1 (Upd.rm1 _ _) (Reord.skip (Reord.skip (Reord.refl _)))) ?_
    refine gl_toC (by kernel_rfl) ?_
    refine gk_ret (by kernel_rfl) ?_
    repeat (refine ge_seq_ret ?_)
    have hrl : (a0.take q ++ y :: a0.drop q).length = a0.length + 1 := by simp; omega
    refine ge_result trivial (ResOk.tmp (by kernel_rfl) ResOk.nil) (Imm.refl _) ⟨some ⟨g2, 0, none⟩, c2, _, .inr ⟨g2, _, (0, 0), rfl, rfl, FreeOf.zero _, by rw [Int.toNat_natCast, hrl]; exact hc2, by rw [putSeg_size, putSeg_size, hs2, hn], ?_, by rw [Int.toNat_natCast, hrl]; exact hmx⟩, by rw [Int.toNat_natCast, hrl]; rfl, rfl⟩
    refine row_insert hrow hy (by simpa using hq) (fun j hj => ?_) (fun j hj => ?_) (fun j hj => ?_)
    all_goals rw [hn, Int.toNat_natCast] at *
    · rw [putSeg_get _ _ _ hfit2, if_neg (by omega), putSeg_get _ _ _ hfit1, if_neg (by omega)]; exact heq j hj
    · rw [putSeg_get _ _ _ hfit2, if_neg (by omega), putSeg_get _ _ _ hfit1, if_pos (by omega)]; congr 1; omega
    · rw [putSeg_get _ _ _ hfit2, if_pos (by rw [hll]; omega), show (q + 1) * 7 + j - (q + 1) * 7 = j from by omega]; exact hlg j hj
  · -- there is room
    have hgt : a0.length + 1 ≤ c := by have := of_decide_eq_false hc; rw [w1] at this; omega
    refine gk_skip (by kernel_rfl) ?_
    refine ge_seq ?_
    refine gk_sr (by kernel_rfl) (by kernel_rfl) ?_
    refine gl_pure 4 [1, 2, 7, 8, 56, 59] (K' := [(1, .int .i64 q), (2, .slice (some ⟨gv, 0, none⟩) 1 1), (7, .int .i64 1), (8, .int .i64 a0.length), (56, .slice (some ⟨g, 0, none⟩) a0.length c), (59, .int .i64 (IntKind.wrap .i64 ((a0.length : Int) + 1)))]) (by kernel_rfl) ?_
    rw [w1]
    refine gl_sliceV (T' := 42) (e := 77) (n := 7) (A := some ⟨g, 0, none⟩) (len := a0.length) (c := c) (a := 0) (b := ((a0.length + 1 : Nat) : Int)) (xs := .tmp 56) (lo := none) (hi := some (.tmp 59)) (by omega) (by omega) (by omega) (by kernel_rfl) (by kernel_rfl) (by kernel_rfl) (by kernel_rfl) (by kernel_rfl) (by kernel_rfl) (v := .slice (some ⟨g, 0, none⟩) (a0.length + 1) c) (by rw [show ((0 : Int).toNat) = 0 from rfl, head_eq (by omega)]; simp) ?_
    refine gl_pure 1 [0, 1, 2, 7, 8] (K' := [(0, .slice (some ⟨g, 0, none⟩) (a0.length + 1) c), (1, .int .i64 q), (2, .slice (some ⟨gv, 0, none⟩) 1 1), (7, .int .i64 1), (8, .int .i64 a0.length)]) (by kernel_rfl) ?_
    refine gl_toC (by kernel_rfl) ?_
    refine gk_seq (by kernel_rfl) ?_
    refine gk_sr (by kernel_rfl) (by kernel_rfl) ?_
    refine gl_pure 5 [0, 1, 2, 7, 61, 62, 65] (K' := [(0, .slice (some ⟨g, 0, none⟩) (a0.length + 1) c), (1, .int .i64 q), (2, .slice (some ⟨gv, 0, none⟩) 1 1), (7, .int .i64 1), (61, .slice (some ⟨gv, 0, none⟩) 1 1), (62, .slice (some ⟨g, 0, none⟩) (a0.length + 1) c), (65, .int .i64 (IntKind.wrap .i64 ((q : Int) + 1)))]) (by kernel_rfl) ?_
    rw [w2]
    refine gl_sliceV (T' := 42) (e := 77) (n := 7) (A := some ⟨g, 0, none⟩) (len := a0.length + 1) (c := c) (a := ((q + 1 : Nat) : Int)) (b := ((a0.length + 1 : Nat) : Int)) (xs := .tmp 62) (lo := some (.tmp 65)) (hi := none) (by omega) (by omega) (by omega) (by kernel_rfl) (by kernel_rfl) (by kernel_rfl) (by kernel_rfl) (by kernel_rfl) (by kernel_rfl) (v := .slice (some ⟨g, (q + 1) * 7, none⟩) (a0.length - q) (c - (q + 1))) (by rw [Int.toNat_natCast, Int.toNat_natCast, head_eq (by omega), show a0.length + 1 - (q + 1) = a0.length - q from by omega]) ?_
    refine gl_have (φ := gv ≠ g) (fun W hW he => by
      subst he
      have := hW.nd
      simp at this) (fun hneg => ?_)
    refine gl_overlaps (f := 55) (tS := 42) (tR := 4) (e := 77) (size := 7) (g1 := gv) (g2 := g) (o1 := 0) (o2 := (q + 1) * 7) (la := 1) (ca := 1) (lb := a0.length - q) (cb := c - (q + 1)) (c1 := vs.toArray) (c2 := cells) (t1 := 77) (t2 := 77) (fz := fz) Tryd.func55 (by kernel_rfl) (by kernel_rfl) (by kernel_rfl) (by kernel_rfl) (by kernel_rfl) (by kernel_rfl) (by kernel_rfl) (List.mem_cons_of_mem _ List.mem_cons_self) List.mem_cons_self hneg (by rw [hcs]; omega) ?_
    refine gl_pure 1 [0, 1, 2, 7, 68] (K' := [(0, .slice (some ⟨g, 0, none⟩) (a0.length + 1) c), (1, .int .i64 q), (2, .slice (some ⟨gv, 0, none⟩) 1 1), (7, .int .i64 1), (68, .bool true)]) (by kernel_rfl) ?_
    refine gl_toC (by kernel_rfl) ?_
    refine gk_cond (b := true) (by kernel_rfl) (by kernel_rfl) (fun _ => ?_) (fun h => by cases h)
    refine gk_seq (by kernel_rfl) ?_
    refine gk_draw 8 [(0, true), (1, true), (2, true), (3, true), (4, true), (5, true), (6, true), (7, true)] [] (fun p hp => by cases hp) (by kernel_rfl) (by kernel_rfl) (by kernel_rfl) ?_ (by kernel_rfl)
    refine gd_pure 4 [0, 1, 2, 69, 72] (K' := [(0, .slice (some ⟨g, 0, none⟩) (a0.length + 1) c), (1, .int .i64 q), (2, .slice (some ⟨gv, 0, none⟩) 1 1), (69, .slice (some ⟨g, 0, none⟩) (a0.length + 1) c), (72, .int .i64 (IntKind.wrap .i64 ((q : Int) + 1)))]) (s' := [(4, true), (5, true), (6, true), (7, true)]) (CC.refl (fun p hp => by cases hp)) (by kernel_rfl) ?_
    rw [w2]
    refine gd_q (v := .slice (some ⟨g, (q + 1) * 7, none⟩) (a0.length - q) (c - (q + 1))) (by kernel_rfl) (by kernel_rfl) (CC.refl (fun p hp => by cases hp)) (fun I' L' T hC kk => gl_sliceV (T' := 42) (e := 77) (n := 7) (A := some ⟨g, 0, none⟩) (len := a0.length + 1) (c := c) (a := ((q + 1 : Nat) : Int)) (b := ((a0.length + 1 : Nat) : Int)) (xs := .tmp 69) (lo := some (.tmp 72)) (hi := none) (by omega) (by omega) (by omega) (by kernel_rfl) (by kernel_rfl) (by kernel_rfl) (by kernel_rfl) (by kernel_rfl) (by kernel_rfl) (by rw [Int.toNat_natCast, Int.toNat_natCast, head_eq (by omega), show a0.length + 1 - (q + 1) = a0.length - q from by omega]) kk) ?_
    refine gd_pure 2 [0, 1, 2, 73, 74, 75] (K' := [(0, .slice (some ⟨g, 0, none⟩) (a0.length + 1) c), (1, .int .i64 q), (2, .slice (some ⟨gv, 0, none⟩) 1 1), (73, .slice (some ⟨g, (q + 1) * 7, none⟩) (a0.length - q) (c - (q + 1))), (74, .slice (some ⟨g, 0, none⟩) (a0.length + 1) c), (75, .int .i64 q)]) (s' := [(7, true)]) (CC.refl (fun p hp => by cases hp)) (by kernel_rfl) ?_
    refine gd_q (v := .slice (some ⟨g, q * 7, none⟩) (a0.length + 1 - q) (c - q)) (by kernel_rfl) (by kernel_rfl) (CC.refl (fun p hp => by cases hp)) (fun I' L' T hC kk => gl_sliceV (T' := 42) (e := 77) (n := 7) (A := some ⟨g, 0, none⟩) (len := a0.length + 1) (c := c) (a := q) (b := ((a0.length + 1 : Nat) : Int)) (xs := .tmp 74) (lo := some (.tmp 75)) (hi := none) (by omega) (by omega) (by omega) (by kernel_rfl) (by kernel_rfl) (by kernel_rfl) (by kernel_rfl) (by kernel_rfl) (by kernel_rfl) (by rw [Int.toNat_natCast, Int.toNat_natCast, head_eq (by omega)]) kk) ?_
    refine gd_done ?_
    have hll : ((cells.toList.drop (q * 7)).take ((a0.length - q) * 7)).length = (a0.length - q) * 7 := by
      rw [List.length_take, List.length_drop, Array.length_toList (xs := cells), hcs]
      have e1 : (a0.length - q) * 7 + q * 7 = a0.length * 7 := by rw [← Nat.add_mul]; congr 1; omega
      have e2 := Nat.mul_le_mul_right 7 hlc'
      omega
    have hlg : ∀ j, j < (a0.length - q) * 7 → ((cells.toList.drop (q * 7)).take ((a0.length - q) * 7))[j]? = cells[q * 7 + j]? := fun j hj => by
      rw [List.getElem?_take, if_pos hj, List.getElem?_drop, Array.getElem?_toList]
    have hone : ∀ v ∈ (cells.toList.drop (q * 7)).take ((a0.length - q) * 7), v.oneCell' = true := row_one hrow hcs hlc' hn
    have hfit1 : (q + 1) * 7 + ((cells.toList.drop (q * 7)).take ((a0.length - q) * 7)).length ≤ cells.size := by
      rw [hll, hcs]
      have e1 : (q + 1) * 7 + (a0.length - q) * 7 = (a0.length + 1) * 7 := by rw [← Nat.add_mul]; congr 1; omega
      have e2 := Nat.mul_le_mul_right 7 hgt
      omega
    refine gl_copyB (g := g) (off := (q + 1) * 7) (dLen := a0.length - q) (dCap := c - (q + 1)) (sLen := a0.length + 1 - q) (m := a0.length - q) (size := 7) (tD := 42) (tS := 42) (e := 77) (sv := .slice (some ⟨g, q * 7, none⟩) (a0.length + 1 - q) (c - q)) (dx := .tmp 73) (sx := .tmp 76) (cells := cells) (e' := 77) (fz := fz) (l := (cells.toList.drop (q * 7)).take ((a0.length - q) * 7)) (by kernel_rfl) (by kernel_rfl) (by kernel_rfl) (by kernel_rfl) (by kernel_rfl) (fun W => rfl) (Nat.min_eq_right (by omega)) (fun W hW => run_firstCells_some W 7 (a0.length - q) ⟨g, q * 7, none⟩ _ _ _ hll (fun j v hj => by
      have hm : W.heap[g]? = some (.cells cells 77 fz) := hW.mem List.mem_cons_self
      have hjl : j < (a0.length - q) * 7 := by rw [← hll]; exact (List.getElem?_eq_some_iff.1 hj).1
      rw [hlg j hjl] at hj
      have hadd : (⟨g, q * 7, none⟩ : Addr).add j = ⟨g, q * 7 + j, none⟩ := by
        unfold Addr.add; split
        · rename_i h; rw [h]; rfl
        · rfl
      rw [hadd]; simp only [World.cell?, hm]; simpa using hj)) (Upd.set _ _ _ _) hfz hfit1 hone ?_
    refine gl_pick [0, 1, 2] (K' := [(0, .slice (some ⟨g, 0, none⟩) (a0.length + 1) c), (1, .int .i64 q), (2, .slice (some ⟨gv, 0, none⟩) 1 1)]) (by kernel_rfl) ?_
    refine gl_atE (by kernel_rfl) ?_
    refine ge_seq ?_
    refine gk_sr (by kernel_rfl) (by kernel_rfl) ?_
    refine gl_pure 2 [0, 2, 78, 79] (K' := [(0, .slice (some ⟨g, 0, none⟩) (a0.length + 1) c), (2, .slice (some ⟨gv, 0, none⟩) 1 1), (78, .slice (some ⟨g, 0, none⟩) (a0.length + 1) c), (79, .int .i64 q)]) (by kernel_rfl) ?_
    refine gl_sliceV (T' := 42) (e := 77) (n := 7) (A := some ⟨g, 0, none⟩) (len := a0.length + 1) (c := c) (a := q) (b := ((a0.length + 1 : Nat) : Int)) (xs := .tmp 78) (lo := some (.tmp 79)) (hi := none) (by omega) (by omega) (by omega) (by kernel_rfl) (by kernel_rfl) (by kernel_rfl) (by kernel_rfl) (by kernel_rfl) (by kernel_rfl) (v := .slice (some ⟨g, q * 7, none⟩) (a0.length + 1 - q) (c - q)) (by rw [Int.toNat_natCast, Int.toNat_natCast, head_eq (by omega)]) ?_
    refine gl_pure 1 [0, 80, 81] (K' := [(0, .slice (some ⟨g, 0, none⟩) (a0.length + 1) c), (80, .slice (some ⟨g, q * 7, none⟩) (a0.length + 1 - q) (c - q)), (81, .slice (some ⟨gv, 0, none⟩) 1 1)]) (by kernel_rfl) ?_
    have hfit2 : q * 7 + vs.length ≤ (putSeg cells ((q + 1) * 7) ((cells.toList.drop (q * 7)).take ((a0.length - q) * 7))).size := by
      rw [putSeg_size, hvl, hcs]
      have : (q + 1) * 7 ≤ c * 7 := Nat.mul_le_mul_right _ (by omega)
      omega
    refine gl_copyB (g := g) (off := q * 7) (dLen := a0.length + 1 - q) (dCap := c - q) (sLen := 1) (m := 1) (size := 7) (tD := 42) (tS := 42) (e := 77) (sv := .slice (some ⟨gv, 0, none⟩) 1 1) (dx := .tmp 80) (sx := .tmp 81) (cells := putSeg cells ((q + 1) * 7) ((cells.toList.drop (q * 7)).take ((a0.length - q) * 7))) (e' := 77) (fz := fz) (l := vs) (by kernel_rfl) (by kernel_rfl) (by kernel_rfl) (by kernel_rfl) (by kernel_rfl) (fun W => rfl) (Nat.min_eq_left (by omega)) (fun W hW => run_firstCells_some W 7 1 ⟨gv, 0, none⟩ 1 1 vs (by rw [hvl]) (fun j v hj => by
      have hm : W.heap[gv]? = some (.cells vs.toArray 77) := hW.mem (List.mem_cons_of_mem _ List.mem_cons_self)
      have hadd : (⟨gv, 0, none⟩ : Addr).add j = ⟨gv, j, none⟩ := by unfold Addr.add; split <;> simp_all
      rw [hadd]; simp only [World.cell?, hm]; simpa using hj)) (Upd.set _ _ _ _) (by rw [FreeOf, putSeg_size]; exact hfz) hfit2 hvo ?_
    refine gl_pick [0] (K' := [(0, .slice (some ⟨g, 0, none⟩) (a0.length + 1) c)]) (by kernel_rfl) ?_
    refine gl_toC (by kernel_rfl) ?_
    refine gk_sr (by kernel_rfl) (by kernel_rfl) ?_
    refine gl_pure 2 [6] (K' := [(6, .slice (some ⟨g, 0, none⟩) (a0.length + 1) c)]) (by kernel_rfl) ?_
    refine gl_reord (D := [(g, .cells (putSeg (putSeg cells ((q + 1) * 7) ((cells.toList.drop (q * 7)).take ((a0.length - q) * 7))) (q * 7) vs) 77 fz)] ++ L) (Reord.step1 (Upd.rm1 _ _) (Reord.skip (Reord.refl _))) ?_
    refine gl_toC (by kernel_rfl) ?_
    refine gk_ret (by kernel_rfl) ?_
    repeat (refine ge_seq_ret ?_)
    have hrl : (a0.take q ++ y :: a0.drop q).length = a0.length + 1 := by simp; omega
    refine ge_result trivial (ResOk.tmp (by kernel_rfl) ResOk.nil) (Imm.refl _) ⟨some ⟨g, 0, none⟩, c, _, .inr ⟨g, _, fz, rfl, rfl, by rw [FreeOf, putSeg_size, putSeg_size]; exact hfz, by rw [Int.toNat_natCast, hrl]; exact hgt, by rw [putSeg_size, putSeg_size, hcs, hn], ?_, by rw [Int.toNat_natCast, hrl]; exact hmx⟩, by rw [Int.toNat_natCast, hrl]; rfl, rfl⟩
    refine row_insert hrow hy (by simpa using hq) (fun j hj => ?_) (fun j hj => ?_) (fun j hj => ?_)
    all_goals rw [hn, Int.toNat_natCast] at *
    · rw [putSeg_get _ _ _ hfit2, if_neg (by omega), putSeg_get _ _ _ hfit1, if_neg (by omega)]
    · rw [putSeg_get _ _ _ hfit2, if_pos (by omega)]; congr 1; omega
    · rw [putSeg_get _ _ _ hfit2, if_neg (by omega), putSeg_get _ _ _ hfit1, if_pos (by rw [hll]; omega), show (q + 1) * 7 + j - (q + 1) * 7 = j from by omega]; exact hlg j hj

/-! 17 nflog_list_put ('obj', 'imm', 'imm') -/
noncomputable def nflog_list_put (a0 : S43) (a1 : S59) (a2 : S23) : Option S43 :=
  Option.bind (nflog_list_find a0 a1) fun (y3 : Int × Bool) =>
  bif y3.2 then
  (Option.bind (ix a0.f0 y3.1) fun (x9 : S76) =>
    some (⟨(lset a0.f0 y3.1 (⟨x9.f0, a2⟩ : S76))⟩ : S43))
  else
  (Option.bind (linsert a0.f0 y3.1 (⟨(⟨a1.f0, a1.f1⟩ : S59), (⟨a2.f0, a2.f1, a2.f2, a2.f3, a2.f4⟩ : S23)⟩ : S76)) fun (zs31 : List S76) =>
    some (⟨zs31⟩ : S43))
theorem nflog_list_put_walk {a0 : S43} {g0 : Nat} {T0 : TypeId} {A0_0 : Option Addr} {c0_0 : Nat} {C0_0 : Own} {a1 : S59} {a2 : S23} {A2_3 : Option Addr} {n2_3 : Nat} {A2_4 : Option Addr} {n2_4 : Nat} {I : Imm} {r : S43}  (hO0_0 : OwnS kS76 77 I A0_0 c0_0 a0.f0 C0_0)  (hf2_3 : RepS (Kd.sl kS53) I A2_3 n2_3 a2.f3) (hf2_4 : RepS (Kd.sl kS53) I A2_4 n2_4 a2.f4) (hr : nflog_list_put a0 a1 a2 = some r) (L : Own) :
    CallsTo Tryd.prog 17 #[.pointer (some ⟨g0, 0, none⟩), .agg #[.string a1.f0, .string a1.f1], .agg #[.string a2.f0, .string a2.f1, .int .i64 a2.f2, .slice A2_3 a2.f3.length n2_3, .slice A2_4 a2.f4.length n2_4]] I ((g0, .cells #[.slice A0_0 a0.f0.length c0_0] T0) :: (C0_0 ++ L)) (fun v I' L' => ∃ A0_0 c0_0 C0_0, OwnS kS76 77 I' A0_0 c0_0 r.f0 C0_0 ∧ v = .tuple #[] ∧ (g0, .cells #[.slice A0_0 r.f0.length c0_0] T0) :: (C0_0 ++ L) = L') := by
  unfold nflog_list_put at hr
  refine callsTo_body (N := 36) Tryd.func17 (by kernel_rfl) (by kernel_rfl) (by kernel_rfl) ?_
  refine gk_pick [0, 1, 2] (K' := [(0, .pointer (some ⟨g0, 0, none⟩)), (1, .agg #[.string a1.f0, .string a1.f1]), (2, .agg #[.string a2.f0, .string a2.f1, .int .i64 a2.f2, .slice A2_3 a2.f3.length n2_3, .slice A2_4 a2.f4.length n2_4])]) (by kernel_rfl) ?_
  refine gk_seq (by kernel_rfl) ?_
  refine gk_region (by kernel_rfl) ?_
  refine gl_box (T' := 60) (x := (.tmp 1)) (v := .agg #[.string a1.f0, .string a1.f1]) (cs := #[.string a1.f0, .string a1.f1]) (by kernel_rfl) (by kernel_rfl) (by kernel_rfl) (by kernel_rfl) (fun gb1 => ?_)
  refine gl_box (T' := 24) (x := (.tmp 2)) (v := .agg #[.string a2.f0, .string a2.f1, .int .i64 a2.f2, .slice A2_3 a2.f3.length n2_3, .slice A2_4 a2.f4.length n2_4]) (cs := #[.string a2.f0, .string a2.f1, .int .i64 a2.f2, .slice A2_3 a2.f3.length n2_3, .slice A2_4 a2.f4.length n2_4]) (by kernel_rfl) (by kernel_rfl) (by kernel_rfl) (by kernel_rfl) (fun gb2 => ?_)
  refine gl_atE (by kernel_rfl) ?_
  refine ge_seq ?_
  refine gk_seq (by kernel_rfl) ?_
  refine gk_region (by kernel_rfl) ?_
  refine gl_pure 1 [0, 4, 5, 9] (K' := [(0, .pointer (some ⟨g0, 0, none⟩)), (4, .pointer (some ⟨gb1, 0, none⟩)), (5, .pointer (some ⟨gb2, 0, none⟩)), (9, .pointer (some ⟨g0, 0, none⟩))]) (by kernel_rfl) ?_
  refine gl_loadB (T' := 60) (xp := (.tmp 4)) (v := .agg #[.string a1.f0, .string a1.f1]) (g := gb1) (off := 0) (cs := #[.string a1.f0, .string a1.f1]) (e := 60) (fz := (0, 0)) (by kernel_rfl) (by kernel_rfl) (by kernel_rfl) (List.mem_cons_of_mem _ List.mem_cons_self) (by kernel_rfl) ?_
  obtain ⟨y3, hx4, hr⟩ := bind_some hr
  refine gl_reord (D := (g0, .cells #[.slice A0_0 a0.f0.length c0_0] T0) :: (C0_0 ++ ((gb2, .cells #[.string a2.f0, .string a2.f1, .int .i64 a2.f2, .slice A2_3 a2.f3.length n2_3, .slice A2_4 a2.f4.length n2_4] 24) :: ((gb1, .cells #[.string a1.f0, .string a1.f1] 60) :: L)))) (Reord.step1 (Upd.one _ (Upd.one _ (Upd.rm1 _ _))) (Reord.step (Upd.one _ (Upd.one _ (Upd.rmC _ _))) (Reord.step1 (Upd.rm1 _ _) (Reord.step1 (Upd.rm1 _ _) (Reord.refl _))))) ?_
  refine gl_call (by kernel_rfl) (nflog_list_find_walk (r := y3) (g0 := g0) (T0 := T0) (A0_0 := A0_0) (c0_0 := c0_0) (C0_0 := C0_0) (a0 := a0) hO0_0 hx4 _) ?_
  rintro v I5 L6 hI7 ⟨rfl, rfl⟩
  refine gl_pure 5 [0, 4, 5, 6, 7] (K' := [(0, .pointer (some ⟨g0, 0, none⟩)), (4, .pointer (some ⟨gb1, 0, none⟩)), (5, .pointer (some ⟨gb2, 0, none⟩)), (6, .int .i64 y3.1), (7, .bool y3.2)]) (by kernel_rfl) ?_
  refine gl_atE (by kernel_rfl) ?_
  refine ge_seq ?_
  refine gk_seq (by kernel_rfl) ?_
  refine gk_seq (by kernel_rfl) ?_
  refine gk_region (by kernel_rfl) ?_
  refine gl_pure 1 [0, 4, 5, 6, 14] (K' := [(0, .pointer (some ⟨g0, 0, none⟩)), (4, .pointer (some ⟨gb1, 0, none⟩)), (5, .pointer (some ⟨gb2, 0, none⟩)), (6, .int .i64 y3.1), (14, .bool y3.2)]) (by kernel_rfl) ?_
  refine gl_atE (by kernel_rfl) ?_
  refine ge_seq ?_
  refine gk_cond (b := y3.2) (by kernel_rfl) (by kernel_rfl) (fun hc8 => ?_) (fun hc8 => ?_)
  · have hr := cond_t hc8 hr
    refine gk_seq (by kernel_rfl) ?_
    refine gk_draw 8 [(0, true), (1, true), (2, true), (3, true), (4, true), (5, true), (6, false), (7, true)] [(g0, .cells #[.slice A0_0 a0.f0.length c0_0] T0), (gb2, .cells #[.string a2.f0, .string a2.f1, .int .i64 a2.f2, .slice A2_3 a2.f3.length n2_3, .slice A2_4 a2.f4.length n2_4] 24), (gb1, .cells #[.string a1.f0, .string a1.f1] 60)] (List.forall_mem_cons.2 ⟨List.mem_cons_self, (List.forall_mem_cons.2 ⟨(List.mem_cons_of_mem _ (List.mem_append_right _ List.mem_cons_self)), (List.forall_mem_cons.2 ⟨(List.mem_cons_of_mem _ (List.mem_append_right _ (List.mem_cons_of_mem _ List.mem_cons_self))), (fun p hp => by cases hp)⟩)⟩)⟩) (by kernel_rfl) (by kernel_rfl) (by kernel_rfl) ?_ (by kernel_rfl)
    refine gd_pure 3 [5, 6, 17] (K' := [(5, .pointer (some ⟨gb2, 0, none⟩)), (6, .int .i64 y3.1), (17, .pointer (some ⟨g0, 0, none⟩))]) (s' := [(3, true), (4, true), (5, true), (6, false), (7, true)]) (CC.refl (List.forall_mem_cons.2 ⟨List.mem_cons_self, (List.forall_mem_cons.2 ⟨(List.mem_cons_of_mem _ (List.mem_append_right _ List.mem_cons_self)), (List.forall_mem_cons.2 ⟨(List.mem_cons_of_mem _ (List.mem_append_right _ (List.mem_cons_of_mem _ List.mem_cons_self))), (fun p hp => by cases hp)⟩)⟩)⟩)) (by kernel_rfl) ?_
    refine gd_q (v := .slice A0_0 a0.f0.length c0_0) (by kernel_rfl) (by kernel_rfl) (CC.refl (List.forall_mem_cons.2 ⟨List.mem_cons_self, (List.forall_mem_cons.2 ⟨(List.mem_cons_of_mem _ (List.mem_append_right _ List.mem_cons_self)), (List.forall_mem_cons.2 ⟨(List.mem_cons_of_mem _ (List.mem_append_right _ (List.mem_cons_of_mem _ List.mem_cons_self))), (fun p hp => by cases hp)⟩)⟩)⟩)) (fun I' L' T hC kk => gl_loadB (T' := 42) (xp := (.tmp 17)) (v := .slice A0_0 a0.f0.length c0_0) (g := g0) (off := 0) (cs := #[.slice A0_0 a0.f0.length c0_0]) (e := T0) (fz := (0, 0)) (by kernel_rfl) (by kernel_rfl) (by kernel_rfl) (hC.sub _ List.mem_cons_self) (by kernel_rfl) kk) ?_
    refine gd_pure 1 [5, 18, 19] (K' := [(5, .pointer (some ⟨gb2, 0, none⟩)), (18, .slice A0_0 a0.f0.length c0_0), (19, .int .i64 y3.1)]) (s' := [(5, true), (6, false), (7, true)]) (CC.refl (List.forall_mem_cons.2 ⟨List.mem_cons_self, (List.forall_mem_cons.2 ⟨(List.mem_cons_of_mem _ (List.mem_append_right _ List.mem_cons_self)), (List.forall_mem_cons.2 ⟨(List.mem_cons_of_mem _ (List.mem_append_right _ (List.mem_cons_of_mem _ List.mem_cons_self))), (fun p hp => by cases hp)⟩)⟩)⟩)) (by kernel_rfl) ?_
    refine gd_q (v := .agg #[.string a2.f0, .string a2.f1, .int .i64 a2.f2, .slice A2_3 a2.f3.length n2_3, .slice A2_4 a2.f4.length n2_4]) (by kernel_rfl) (by kernel_rfl) (CC.refl (List.forall_mem_cons.2 ⟨List.mem_cons_self, (List.forall_mem_cons.2 ⟨(List.mem_cons_of_mem _ (List.mem_append_right _ List.mem_cons_self)), (List.forall_mem_cons.2 ⟨(List.mem_cons_of_mem _ (List.mem_append_right _ (List.mem_cons_of_mem _ List.mem_cons_self))), (fun p hp => by cases hp)⟩)⟩)⟩)) (fun I' L' T hC kk => gl_loadB (T' := 24) (xp := (.tmp 5)) (v := .agg #[.string a2.f0, .string a2.f1, .int .i64 a2.f2, .slice A2_3 a2.f3.length n2_3, .slice A2_4 a2.f4.length n2_4]) (g := gb2) (off := 0) (cs := #[.string a2.f0, .string a2.f1, .int .i64 a2.f2, .slice A2_3 a2.f3.length n2_3, .slice A2_4 a2.f4.length n2_4]) (e := 24) (fz := (0, 0)) (by kernel_rfl) (by kernel_rfl) (by kernel_rfl) (hC.sub _ (List.mem_cons_of_mem _ List.mem_cons_self)) (by kernel_rfl) kk) ?_
    refine gd_one (by kernel_rfl) ?_
    obtain ⟨x9, hx10, hr⟩ := bind_some hr
    refine gl_indexAddrW (d := kS76) (c := c0_0) (T' := 42) (e := 77) (xs := (.tmp 18)) (xi := (.tmp 19)) (kd := .i64) hx10 (hO0_0.mono hI7) (Upd.one _ (Upd.selfC _ _)) (by kernel_rfl) (by kernel_rfl) (by kernel_rfl) (by kernel_rfl) (by kernel_rfl) (fun p11 cs12 hR13 hA14 hp23 => ?_)
    obtain ⟨A17, n18, A20, n21, hf19, hf22, rfl⟩ := kS76_open hR13
    refine gl_toD (by kernel_rfl) ⟨(Imm.refl _), (List.forall_mem_cons.2 ⟨List.mem_cons_self, (List.forall_mem_cons.2 ⟨(List.mem_cons_of_mem _ (List.mem_append_right _ List.mem_cons_self)), (List.forall_mem_cons.2 ⟨(List.mem_cons_of_mem _ (List.mem_append_right _ (List.mem_cons_of_mem _ List.mem_cons_self))), (fun p hp => by cases hp)⟩)⟩)⟩)⟩ ?_
    refine gd_pure 1 [20, 22] (K' := [(20, .agg #[.string a2.f0, .string a2.f1, .int .i64 a2.f2, .slice A2_3 a2.f3.length n2_3, .slice A2_4 a2.f4.length n2_4]), (22, .pointer (some (p11.add 2)))]) (s' := []) (CC.refl (List.forall_mem_cons.2 ⟨List.mem_cons_self, (List.forall_mem_cons.2 ⟨(List.mem_cons_of_mem _ (List.mem_append_right _ List.mem_cons_self)), (List.forall_mem_cons.2 ⟨(List.mem_cons_of_mem _ (List.mem_append_right _ (List.mem_cons_of_mem _ List.mem_cons_self))), (fun p hp => by cases hp)⟩)⟩)⟩)) (by kernel_rfl) ?_
    refine gd_done ?_
    have hl26 : a0.f0.length = (lset a0.f0 y3.1 (⟨x9.f0, a2⟩ : S76)).length := by simp [lset]
    refine gl_storeE (d := kS76) (T' := 24) (xp := (.tmp 22)) (xv := (.tmp 20)) (v := .agg #[.string a2.f0, .string a2.f1, .int .i64 a2.f2, .slice A2_3 a2.f3.length n2_3, .slice A2_4 a2.f4.length n2_4]) (off := 2) (y := (⟨x9.f0, a2⟩ : S76)) (fun X => (g0, .cells #[.slice A0_0 a0.f0.length c0_0] T0) :: (X ++ ((gb2, .cells #[.string a2.f0, .string a2.f1, .int .i64 a2.f2, .slice A2_3 a2.f3.length n2_3, .slice A2_4 a2.f4.length n2_4] 24) :: ((gb1, .cells #[.string a1.f0, .string a1.f1] 60) :: L)))) hx10 (hO0_0.mono hI7) (fun X => (Upd.one _ (Upd.head _ X _))) hp23 (by kernel_rfl) (by kernel_rfl) (by kernel_rfl) (by kernel_rfl) (by kernel_rfl) (by kernel_rfl) (fun cs h => by obtain ⟨A_5, c_5, A_6, c_6, h_5, h_6, rfl⟩ := kS76_open h; exact kS76_mk (x := (⟨x9.f0, a2⟩ : S76)) (hf2_3.mono hI7) (hf2_4.mono hI7)) (by kernel_rfl) (fun C24 hO25 => ?_)
    try rw [hl26]
    refine gl_atE (by kernel_rfl) ?_
    refine ge_seq ?_
    refine gk_reord (D := (g0, .cells #[.slice A0_0 (lset a0.f0 y3.1 (⟨x9.f0, a2⟩ : S76)).length c0_0] T0) :: (C24 ++ L)) (Reord.step1 (Upd.rm1 _ _) (Reord.step (Upd.rmC _ _) (Reord.skip (Reord.skip (Reord.refl _))))) ?_
    refine gk_ret (by kernel_rfl) ?_
    refine ge_seq_ret ?_
    obtain rfl := some_inj hr
    exact ge_result trivial ResOk.nil hI7 ⟨A0_0, c0_0, C24, hO25, rfl, rfl⟩
  · have hr := cond_f hc8 hr
    refine gk_skip (by kernel_rfl) ?_
    refine ge_seq ?_
    refine gk_draw 13 [(0, true), (1, true), (2, true), (3, true), (4, true), (5, true), (6, true), (7, true), (8, true), (9, false), (10, false), (11, true), (12, true)] [(g0, .cells #[.slice A0_0 a0.f0.length c0_0] T0), (gb2, .cells #[.string a2.f0, .string a2.f1, .int .i64 a2.f2, .slice A2_3 a2.f3.length n2_3, .slice A2_4 a2.f4.length n2_4] 24), (gb1, .cells #[.string a1.f0, .string a1.f1] 60)] (List.forall_mem_cons.2 ⟨List.mem_cons_self, (List.forall_mem_cons.2 ⟨(List.mem_cons_of_mem _ (List.mem_append_right _ List.mem_cons_self)), (List.forall_mem_cons.2 ⟨(List.mem_cons_of_mem _ (List.mem_append_right _ (List.mem_cons_of_mem _ List.mem_cons_self))), (fun p hp => by cases hp)⟩)⟩)⟩) (by kernel_rfl) (by kernel_rfl) (by kernel_rfl) ?_ (by kernel_rfl)
    refine gd_pure 4 [4, 5, 6, 23, 26] (K' := [(4, .pointer (some ⟨gb1, 0, none⟩)), (5, .pointer (some ⟨gb2, 0, none⟩)), (6, .int .i64 y3.1), (23, .pointer (some ⟨g0, 0, none⟩)), (26, .pointer (some ⟨g0, 0, none⟩))]) (s' := [(4, true), (5, true), (6, true), (7, true), (8, true), (9, false), (10, false), (11, true), (12, true)]) (CC.refl (List.forall_mem_cons.2 ⟨List.mem_cons_self, (List.forall_mem_cons.2 ⟨(List.mem_cons_of_mem _ (List.mem_append_right _ List.mem_cons_self)), (List.forall_mem_cons.2 ⟨(List.mem_cons_of_mem _ (List.mem_append_right _ (List.mem_cons_of_mem _ List.mem_cons_self))), (fun p hp => by cases hp)⟩)⟩)⟩)) (by kernel_rfl) ?_
    refine gd_q (v := .slice A0_0 a0.f0.length c0_0) (by kernel_rfl) (by kernel_rfl) (CC.refl (List.forall_mem_cons.2 ⟨List.mem_cons_self, (List.forall_mem_cons.2 ⟨(List.mem_cons_of_mem _ (List.mem_append_right _ List.mem_cons_self)), (List.forall_mem_cons.2 ⟨(List.mem_cons_of_mem _ (List.mem_append_right _ (List.mem_cons_of_mem _ List.mem_cons_self))), (fun p hp => by cases hp)⟩)⟩)⟩)) (fun I' L' T hC kk => gl_loadB (T' := 42) (xp := (.tmp 26)) (v := .slice A0_0 a0.f0.length c0_0) (g := g0) (off := 0) (cs := #[.slice A0_0 a0.f0.length c0_0]) (e := T0) (fz := (0, 0)) (by kernel_rfl) (by kernel_rfl) (by kernel_rfl) (hC.sub _ List.mem_cons_self) (by kernel_rfl) kk) ?_
    refine gd_pure 1 [4, 5, 23, 27, 28] (K' := [(4, .pointer (some ⟨gb1, 0, none⟩)), (5, .pointer (some ⟨gb2, 0, none⟩)), (23, .pointer (some ⟨g0, 0, none⟩)), (27, .slice A0_0 a0.f0.length c0_0), (28, .int .i64 y3.1)]) (s' := [(6, true), (7, true), (8, true), (9, false), (10, false), (11, true), (12, true)]) (CC.refl (List.forall_mem_cons.2 ⟨List.mem_cons_self, (List.forall_mem_cons.2 ⟨(List.mem_cons_of_mem _ (List.mem_append_right _ List.mem_cons_self)), (List.forall_mem_cons.2 ⟨(List.mem_cons_of_mem _ (List.mem_append_right _ (List.mem_cons_of_mem _ List.mem_cons_self))), (fun p hp => by cases hp)⟩)⟩)⟩)) (by kernel_rfl) ?_
    refine gd_q (v := .agg #[.string a1.f0, .string a1.f1]) (by kernel_rfl) (by kernel_rfl) (CC.refl (List.forall_mem_cons.2 ⟨List.mem_cons_self, (List.forall_mem_cons.2 ⟨(List.mem_cons_of_mem _ (List.mem_append_right _ List.mem_cons_self)), (List.forall_mem_cons.2 ⟨(List.mem_cons_of_mem _ (List.mem_append_right _ (List.mem_cons_of_mem _ List.mem_cons_self))), (fun p hp => by cases hp)⟩)⟩)⟩)) (fun I' L' T hC kk => gl_loadB (T' := 60) (xp := (.tmp 4)) (v := .agg #[.string a1.f0, .string a1.f1]) (g := gb1) (off := 0) (cs := #[.string a1.f0, .string a1.f1]) (e := 60) (fz := (0, 0)) (by kernel_rfl) (by kernel_rfl) (by kernel_rfl) (hC.sub _ (List.mem_cons_of_mem _ (List.mem_cons_of_mem _ List.mem_cons_self))) (by kernel_rfl) kk) ?_
    refine gd_q (v := .agg #[.string a2.f0, .string a2.f1, .int .i64 a2.f2, .slice A2_3 a2.f3.length n2_3, .slice A2_4 a2.f4.length n2_4]) (by kernel_rfl) (by kernel_rfl) (CC.refl (List.forall_mem_cons.2 ⟨List.mem_cons_self, (List.forall_mem_cons.2 ⟨(List.mem_cons_of_mem _ (List.mem_append_right _ List.mem_cons_self)), (List.forall_mem_cons.2 ⟨(List.mem_cons_of_mem _ (List.mem_append_right _ (List.mem_cons_of_mem _ List.mem_cons_self))), (fun p hp => by cases hp)⟩)⟩)⟩)) (fun I' L' T hC kk => gl_loadB (T' := 24) (xp := (.tmp 5)) (v := .agg #[.string a2.f0, .string a2.f1, .int .i64 a2.f2, .slice A2_3 a2.f3.length n2_3, .slice A2_4 a2.f4.length n2_4]) (g := gb2) (off := 0) (cs := #[.string a2.f0, .string a2.f1, .int .i64 a2.f2, .slice A2_3 a2.f3.length n2_3, .slice A2_4 a2.f4.length n2_4]) (e := 24) (fz := (0, 0)) (by kernel_rfl) (by kernel_rfl) (by kernel_rfl) (hC.sub _ (List.mem_cons_of_mem _ List.mem_cons_self)) (by kernel_rfl) kk) ?_
    refine gd_pure 1 [23, 27, 28, 31] (K' := [(23, .pointer (some ⟨g0, 0, none⟩)), (27, .slice A0_0 a0.f0.length c0_0), (28, .int .i64 y3.1), (31, .agg #[.string a1.f0, .string a1.f1, .string a2.f0, .string a2.f1, .int .i64 a2.f2, .slice A2_3 a2.f3.length n2_3, .slice A2_4 a2.f4.length n2_4])]) (s' := [(9, false), (10, false), (11, true), (12, true)]) (CC.refl (List.forall_mem_cons.2 ⟨List.mem_cons_self, (List.forall_mem_cons.2 ⟨(List.mem_cons_of_mem _ (List.mem_append_right _ List.mem_cons_self)), (List.forall_mem_cons.2 ⟨(List.mem_cons_of_mem _ (List.mem_append_right _ (List.mem_cons_of_mem _ List.mem_cons_self))), (fun p hp => by cases hp)⟩)⟩)⟩)) (by kernel_rfl) ?_
    refine gd_one (by kernel_rfl) ?_
    refine gl_buildSlice (T' := 42) (e := 77) (n := 7) (len := 1) (parts := #[(0, (.tmp 31))]) (l := [(0, .agg #[.string a1.f0, .string a1.f1, .string a2.f0, .string a2.f1, .int .i64 a2.f2, .slice A2_3 a2.f3.length n2_3, .slice A2_4 a2.f4.length n2_4])]) (cs := #[.string a1.f0, .string a1.f1, .string a2.f0, .string a2.f1, .int .i64 a2.f2, .slice A2_3 a2.f3.length n2_3, .slice A2_4 a2.f4.length n2_4]) (by kernel_rfl) (by kernel_rfl) (by kernel_rfl) (by kernel_rfl) (by kernel_rfl) (fun g27 => ?_)
    have hO28 : OwnS kS76 77 I5 (some ⟨g27, 0, none⟩) 1 [(⟨(⟨a1.f0, a1.f1⟩ : S59), (⟨a2.f0, a2.f1, a2.f2, a2.f3, a2.f4⟩ : S23)⟩ : S76)] [(g27, .cells #[.string a1.f0, .string a1.f1, .string a2.f0, .string a2.f1, .int .i64 a2.f2, .slice A2_3 a2.f3.length n2_3, .slice A2_4 a2.f4.length n2_4] 77)] := OwnS.lit (row_cons (l := [.string a1.f0, .string a1.f1, .string a2.f0, .string a2.f1, .int .i64 a2.f2, .slice A2_3 a2.f3.length n2_3, .slice A2_4 a2.f4.length n2_4]) (kS76_mk (x := (⟨(⟨a1.f0, a1.f1⟩ : S59), (⟨a2.f0, a2.f1, a2.f2, a2.f3, a2.f4⟩ : S23)⟩ : S76)) (hf2_3.mono hI7) (hf2_4.mono hI7)) (row_nil _ _)) rfl rfl rfl
    refine gl_reord (D := [(g27, .cells #[.string a1.f0, .string a1.f1, .string a2.f0, .string a2.f1, .int .i64 a2.f2, .slice A2_3 a2.f3.length n2_3, .slice A2_4 a2.f4.length n2_4] 77)] ++ ((g0, .cells #[.slice A0_0 a0.f0.length c0_0] T0) :: (C0_0 ++ ((gb2, .cells #[.string a2.f0, .string a2.f1, .int .i64 a2.f2, .slice A2_3 a2.f3.length n2_3, .slice A2_4 a2.f4.length n2_4] 24) :: ((gb1, .cells #[.string a1.f0, .string a1.f1] 60) :: L))))) (Reord.refl _) ?_
    refine gl_toD (by kernel_rfl) ⟨(Imm.refl _), (List.forall_mem_cons.2 ⟨(List.mem_append_right _ List.mem_cons_self), (List.forall_mem_cons.2 ⟨(List.mem_append_right _ (List.mem_cons_of_mem _ (List.mem_append_right _ List.mem_cons_self))), (List.forall_mem_cons.2 ⟨(List.mem_append_right _ (List.mem_cons_of_mem _ (List.mem_append_right _ (List.mem_cons_of_mem _ List.mem_cons_self)))), (fun p hp => by cases hp)⟩)⟩)⟩)⟩ ?_
    refine gd_one (by kernel_rfl) ?_
    obtain ⟨zs31, hz32, hr⟩ := bind_some hr
    refine gl_reord (D := C0_0 ++ ([(g27, .cells #[.string a1.f0, .string a1.f1, .string a2.f0, .string a2.f1, .int .i64 a2.f2, .slice A2_3 a2.f3.length n2_3, .slice A2_4 a2.f4.length n2_4] 77)] ++ ((g0, .cells #[.slice A0_0 a0.f0.length c0_0] T0) :: ((gb2, .cells #[.string a2.f0, .string a2.f1, .int .i64 a2.f2, .slice A2_3 a2.f3.length n2_3, .slice A2_4 a2.f4.length n2_4] 24) :: ((gb1, .cells #[.string a1.f0, .string a1.f1] 60) :: L))))) (Reord.step (Upd.app _ (Upd.one _ (Upd.rmC _ _))) (Reord.step (Upd.rmC _ _) (Reord.step1 (Upd.rm1 _ _) (Reord.step1 (Upd.rm1 _ _) (Reord.step1 (Upd.rm1 _ _) (Reord.refl _)))))) ?_
    refine gl_call (by kernel_rfl) (slices_Insert_35_walk (a0 := a0.f0) (A := A0_0) (c := c0_0) (C := C0_0) (gv := g27) (vs := [.string a1.f0, .string a1.f1, .string a2.f0, .string a2.f1, .int .i64 a2.f2, .slice A2_3 a2.f3.length n2_3, .slice A2_4 a2.f4.length n2_4]) (y := (⟨(⟨a1.f0, a1.f1⟩ : S59), (⟨a2.f0, a2.f1, a2.f2, a2.f3, a2.f4⟩ : S23)⟩ : S76)) (r := zs31) (hO0_0.mono hI7) (kS76_mk (x := (⟨(⟨a1.f0, a1.f1⟩ : S59), (⟨a2.f0, a2.f1, a2.f2, a2.f3, a2.f4⟩ : S23)⟩ : S76)) (hf2_3.mono hI7) (hf2_4.mono hI7)) hz32 _) ?_
    rintro v I37 L38 hI39 ⟨A33, n34, C35, hO36, rfl, rfl⟩
    refine gl_toD (by kernel_rfl) ⟨hI39, (List.forall_mem_cons.2 ⟨(List.mem_append_right _ List.mem_cons_self), (List.forall_mem_cons.2 ⟨(List.mem_append_right _ (List.mem_cons_of_mem _ List.mem_cons_self)), (List.forall_mem_cons.2 ⟨(List.mem_append_right _ (List.mem_cons_of_mem _ (List.mem_cons_of_mem _ List.mem_cons_self))), (fun p hp => by cases hp)⟩)⟩)⟩)⟩ ?_
    refine gd_pure 2 [33, 35] (K' := [(33, .slice A33 zs31.length n34), (35, .pointer (some ⟨g0, 0, none⟩))]) (s' := []) (CC.refl (List.forall_mem_cons.2 ⟨(List.mem_append_right _ List.mem_cons_self), (List.forall_mem_cons.2 ⟨(List.mem_append_right _ (List.mem_cons_of_mem _ List.mem_cons_self)), (List.forall_mem_cons.2 ⟨(List.mem_append_right _ (List.mem_cons_of_mem _ (List.mem_cons_of_mem _ List.mem_cons_self))), (fun p hp => by cases hp)⟩)⟩)⟩)) (by kernel_rfl) ?_
    refine gd_done ?_
    refine gl_storeB (T' := 42) (xp := (.tmp 35)) (xv := (.tmp 33)) (v := .slice A33 zs31.length n34) (g := g0) (off := 0) (cs := #[.slice A0_0 a0.f0.length c0_0]) (cs' := #[.slice A33 zs31.length n34]) (by kernel_rfl) (by kernel_rfl) (by kernel_rfl) (by kernel_rfl) (by kernel_rfl) (Upd.app _ (Upd.set _ _ _ _)) ?_ (by kernel_rfl)
    refine gl_reord (D := (g0, .cells #[.slice A33 zs31.length n34] T0) :: (C35 ++ L)) (Reord.step1 (Upd.app _ (Upd.rm1 _ _)) (Reord.step (Upd.rmC _ _) (Reord.skip (Reord.skip (Reord.refl _))))) ?_
    refine gl_atE (by kernel_rfl) ?_
    obtain rfl := some_inj hr
    exact ge_result trivial ResOk.nil (Imm.trans hI7 hI39) ⟨A33, n34, C35, hO36, rfl, rfl⟩
/-! 6 nflog_Log_Put ('obj', 'imm') -/
noncomputable def nflog_Log_Put (a0 : S45) (a1 : S23) : Option (Int × S45) :=
  Option.bind (nflog_Right a1) fun (y2 : Int) =>
  bif (y2 != 0) then
  (some (y2, a0))
  else
  (Option.bind (nflog_Log_Find a0 a1.f0 a1.f1) fun (y5 : S23 × Bool) =>
    bif (y5.2 && (decide (y5.1.f2 > a1.f2))) then
    (some (90, a0))
    else
    (Option.bind (bif (!y5.2) then
        (some (decide ((nflog_Log_Len a0) ≥ 500)))
        else
        (some false)) fun (j24 : Bool) =>
      bif j24 then
      (some (8, a0))
      else
      (Option.bind (nflog_own a1) fun (y34 : S23) =>
        Option.bind (nflog_list_put a0.f0 (⟨a1.f0, a1.f1⟩ : S59) y34) fun (y45 : S43) =>
        some (0, (⟨(⟨y45.f0⟩ : S43)⟩ : S45)))))
theorem nflog_Log_Put_walk {a0 : S45} {g0 : Nat} {T0 : TypeId} {A0_0 : Option Addr} {c0_0 : Nat} {C0_0 : Own} {a1 : S23} {A1_3 : Option Addr} {n1_3 : Nat} {A1_4 : Option Addr} {n1_4 : Nat} {I : Imm} {r : Int × S45} (hG : Gl I)  (hO0_0 : OwnS kS76 77 I A0_0 c0_0 a0.f0.f0 C0_0)  (hf1_3 : RepS (Kd.sl kS53) I A1_3 n1_3 a1.f3) (hf1_4 : RepS (Kd.sl kS53) I A1_4 n1_4 a1.f4) (hr : nflog_Log_Put a0 a1 = some r) (L : Own) :
    CallsTo Tryd.prog 6 #[.pointer (some ⟨g0, 0, none⟩), .agg #[.string a1.f0, .string a1.f1, .int .i64 a1.f2, .slice A1_3 a1.f3.length n1_3, .slice A1_4 a1.f4.length n1_4]] I ((g0, .cells #[.slice A0_0 a0.f0.f0.length c0_0] T0) :: (C0_0 ++ L)) (fun v I' L' => ∃ A1_0 c1_0 C1_0, OwnS kS76 77 I' A1_0 c1_0 r.2.f0.f0 C1_0 ∧ v = .int .i64 r.1 ∧ (g0, .cells #[.slice A1_0 r.2.f0.f0.length c1_0] T0) :: (C1_0 ++ L) = L') := by
  unfold nflog_Log_Put at hr
  refine callsTo_body (N := 52) Tryd.func6 (by kernel_rfl) (by kernel_rfl) (by kernel_rfl) ?_
  refine gk_pick [0, 1] (K' := [(0, .pointer (some ⟨g0, 0, none⟩)), (1, .agg #[.string a1.f0, .string a1.f1, .int .i64 a1.f2, .slice A1_3 a1.f3.length n1_3, .slice A1_4 a1.f4.length n1_4])]) (by kernel_rfl) ?_
  refine gk_seq (by kernel_rfl) ?_
  refine gk_region (by kernel_rfl) ?_
  refine gl_box (T' := 24) (x := (.tmp 1)) (v := .agg #[.string a1.f0, .string a1.f1, .int .i64 a1.f2, .slice A1_3 a1.f3.length n1_3, .slice A1_4 a1.f4.length n1_4]) (cs := #[.string a1.f0, .string a1.f1, .int .i64 a1.f2, .slice A1_3 a1.f3.length n1_3, .slice A1_4 a1.f4.length n1_4]) (by kernel_rfl) (by kernel_rfl) (by kernel_rfl) (by kernel_rfl) (fun gb1 => ?_)
  refine gl_pure 1 [0, 3] (K' := [(0, .pointer (some ⟨g0, 0, none⟩)), (3, .pointer (some ⟨gb1, 0, none⟩))]) (by kernel_rfl) ?_
  refine gl_atE (by kernel_rfl) ?_
  refine ge_seq ?_
  refine gk_seq (by kernel_rfl) ?_
  refine gk_seq (by kernel_rfl) ?_
  refine gk_region (by kernel_rfl) ?_
  refine gl_pure 2 [0, 3, 9] (K' := [(0, .pointer (some ⟨g0, 0, none⟩)), (3, .pointer (some ⟨gb1, 0, none⟩)), (9, .bool false)]) (by kernel_rfl) ?_
  refine gl_atE (by kernel_rfl) ?_
  refine ge_seq ?_
  refine gk_cond (b := false) (by kernel_rfl) (by kernel_rfl) (fun h => by cases h) (fun _ => ?_)
  refine gk_skip (by kernel_rfl) ?_
  refine ge_seq ?_
  refine gk_seq (by kernel_rfl) ?_
  refine gk_seq (by kernel_rfl) ?_
  refine gk_region (by kernel_rfl) ?_
  refine gl_loadB (T' := 24) (xp := (.tmp 3)) (v := .agg #[.string a1.f0, .string a1.f1, .int .i64 a1.f2, .slice A1_3 a1.f3.length n1_3, .slice A1_4 a1.f4.length n1_4]) (g := gb1) (off := 0) (cs := #[.string a1.f0, .string a1.f1, .int .i64 a1.f2, .slice A1_3 a1.f3.length n1_3, .slice A1_4 a1.f4.length n1_4]) (e := 24) (fz := (0, 0)) (by kernel_rfl) (by kernel_rfl) (by kernel_rfl) List.mem_cons_self (by kernel_rfl) ?_
  obtain ⟨y2, hx3, hr⟩ := bind_some hr
  refine gl_callQ (by kernel_rfl) (nflog_Right_walk (r := y2) hG hf1_3 hf1_4 hx3 _) ?_
  refine gl_pure 1 [0, 3, 5] (K' := [(0, .pointer (some ⟨g0, 0, none⟩)), (3, .pointer (some ⟨gb1, 0, none⟩)), (5, .int .i64 y2)]) (by kernel_rfl) ?_
  refine gl_atE (by kernel_rfl) ?_
  refine ge_seq ?_
  refine gk_seq (by kernel_rfl) ?_
  refine gk_region (by kernel_rfl) ?_
  refine gl_pure 2 [0, 3, 5, 13] (K' := [(0, .pointer (some ⟨g0, 0, none⟩)), (3, .pointer (some ⟨gb1, 0, none⟩)), (5, .int .i64 y2), (13, .bool (y2 != 0))]) (by kernel_rfl) ?_
  refine gl_atE (by kernel_rfl) ?_
  refine ge_seq ?_
  refine gk_cond (b := (y2 != 0)) (by kernel_rfl) (by kernel_rfl) (fun hc4 => ?_) (fun hc4 => ?_)
  · have hr := cond_t hc4 hr
    refine gk_seq (by kernel_rfl) ?_
    refine gk_region (by kernel_rfl) ?_
    refine gl_pure 2 [4] (K' := [(4, .int .i64 y2)]) (by kernel_rfl) ?_
    refine gl_atE (by kernel_rfl) ?_
    refine ge_seq ?_
    refine gk_reord (D := (g0, .cells #[.slice A0_0 a0.f0.f0.length c0_0] T0) :: (C0_0 ++ L)) (Reord.step1 (Upd.one _ (Upd.rm1 _ _)) (Reord.step (Upd.one _ (Upd.rmC _ _)) (Reord.skip (Reord.refl _)))) ?_
    refine gk_ret (by kernel_rfl) ?_
    refine ge_seq_ret ?_
    obtain rfl := some_inj hr
    exact ge_result trivial (ResOk.tmp (by kernel_rfl) ResOk.nil) (Imm.refl _) ⟨A0_0, c0_0, C0_0, hO0_0, rfl, rfl⟩
  · have hr := cond_f hc4 hr
    refine gk_skip (by kernel_rfl) ?_
    refine ge_seq ?_
    refine gk_seq (by kernel_rfl) ?_
    refine gk_region (by kernel_rfl) ?_
    refine gl_pure 2 [0, 3, 16, 17] (K' := [(0, .pointer (some ⟨g0, 0, none⟩)), (3, .pointer (some ⟨gb1, 0, none⟩)), (16, .pointer (some ⟨g0, 0, none⟩)), (17, .pointer (some ⟨gb1, 0, none⟩))]) (by kernel_rfl) ?_
    refine gl_loadB (T' := 9) (xp := (.tmp 17)) (v := .string a1.f0) (g := gb1) (off := 0) (cs := #[.string a1.f0, .string a1.f1, .int .i64 a1.f2, .slice A1_3 a1.f3.length n1_3, .slice A1_4 a1.f4.length n1_4]) (e := 24) (fz := (0, 0)) (by kernel_rfl) (by kernel_rfl) (by kernel_rfl) List.mem_cons_self (by kernel_rfl) ?_
    refine gl_pure 1 [0, 3, 16, 18, 19] (K' := [(0, .pointer (some ⟨g0, 0, none⟩)), (3, .pointer (some ⟨gb1, 0, none⟩)), (16, .pointer (some ⟨g0, 0, none⟩)), (18, .string a1.f0), (19, .pointer (some ⟨gb1, 1, none⟩))]) (by kernel_rfl) ?_
    refine gl_loadB (T' := 9) (xp := (.tmp 19)) (v := .string a1.f1) (g := gb1) (off := 1) (cs := #[.string a1.f0, .string a1.f1, .int .i64 a1.f2, .slice A1_3 a1.f3.length n1_3, .slice A1_4 a1.f4.length n1_4]) (e := 24) (fz := (0, 0)) (by kernel_rfl) (by kernel_rfl) (by kernel_rfl) List.mem_cons_self (by kernel_rfl) ?_
    obtain ⟨y5, hx6, hr⟩ := bind_some hr
    refine gl_reord (D := (g0, .cells #[.slice A0_0 a0.f0.f0.length c0_0] T0) :: (C0_0 ++ ((gb1, .cells #[.string a1.f0, .string a1.f1, .int .i64 a1.f2, .slice A1_3 a1.f3.length n1_3, .slice A1_4 a1.f4.length n1_4] 24) :: L))) (Reord.step1 (Upd.one _ (Upd.rm1 _ _)) (Reord.step (Upd.one _ (Upd.rmC _ _)) (Reord.step1 (Upd.rm1 _ _) (Reord.refl _)))) ?_
    refine gl_call (by kernel_rfl) (nflog_Log_Find_walk (r := y5) (g0 := g0) (T0 := T0) (A0_0 := A0_0) (c0_0 := c0_0) (C0_0 := C0_0) (a0 := a0) hO0_0 hx6 _) ?_
    rintro v I7 L8 hI9 ⟨A10, c11, A12, c13, hf14, hf15, rfl, rfl⟩
    refine gl_pure 3 [0, 3, 22, 23] (K' := [(0, .pointer (some ⟨g0, 0, none⟩)), (3, .pointer (some ⟨gb1, 0, none⟩)), (22, .agg #[.string y5.1.f0, .string y5.1.f1, .int .i64 y5.1.f2, .slice A10 y5.1.f3.length c11, .slice A12 y5.1.f4.length c13]), (23, .bool y5.2)]) (by kernel_rfl) ?_
    refine gl_alloc (T' := 24) (cs := #[.string (⟨#[]⟩ : ByteArray), .string (⟨#[]⟩ : ByteArray), .int .i64 0, .slice none 0 0, .slice none 0 0]) (by kernel_rfl) (by kernel_rfl) (by kernel_rfl) (fun g16 => ?_)
    refine gl_storeB (T' := 24) (xp := (.tmp 6)) (xv := (.tmp 22)) (v := .agg #[.string y5.1.f0, .string y5.1.f1, .int .i64 y5.1.f2, .slice A10 y5.1.f3.length c11, .slice A12 y5.1.f4.length c13]) (g := g16) (off := 0) (cs := #[.string (⟨#[]⟩ : ByteArray), .string (⟨#[]⟩ : ByteArray), .int .i64 0, .slice none 0 0, .slice none 0 0]) (cs' := #[.string y5.1.f0, .string y5.1.f1, .int .i64 y5.1.f2, .slice A10 y5.1.f3.length c11, .slice A12 y5.1.f4.length c13]) (by kernel_rfl) (by kernel_rfl) (by kernel_rfl) (by kernel_rfl) (by kernel_rfl) (Upd.set _ _ _ _) ?_ (by kernel_rfl)
    refine gl_pure 1 [0, 3, 6, 7] (K' := [(0, .pointer (some ⟨g0, 0, none⟩)), (3, .pointer (some ⟨gb1, 0, none⟩)), (6, .pointer (some ⟨g16, 0, none⟩)), (7, .bool y5.2)]) (by kernel_rfl) ?_
    refine gl_atE (by kernel_rfl) ?_
    refine ge_seq ?_
    refine gk_seq (by kernel_rfl) ?_
    refine gk_block (by kernel_rfl) ?_
    refine gk_seq (by kernel_rfl) ?_
    obtain ⟨b19, hb20⟩ : ∃ z, z = (y5.2 && (decide (y5.1.f2 > a1.f2))) := ⟨_, rfl⟩
    refine gk_join (fun t I' L' => I7 ≤ I' ∧ (g16, .cells #[.string y5.1.f0, .string y5.1.f1, .int .i64 y5.1.f2, .slice A10 y5.1.f3.length c11, .slice A12 y5.1.f4.length c13] 24) :: ((g0, .cells #[.slice A0_0 a0.f0.f0.length c0_0] T0) :: (C0_0 ++ ((gb1, .cells #[.string a1.f0, .string a1.f1, .int .i64 a1.f2, .slice A1_3 a1.f3.length n1_3, .slice A1_4 a1.f4.length n1_4] 24) :: L))) = L' ∧ Knows 52 [(0, .pointer (some ⟨g0, 0, none⟩)), (3, .pointer (some ⟨gb1, 0, none⟩)), (7, .bool y5.2), (24, .bool b19)] t) ?_ ?_
    · refine gk_region (by kernel_rfl) ?_
      refine gl_pure 2 [0, 3, 6, 7, 26] (K' := [(0, .pointer (some ⟨g0, 0, none⟩)), (3, .pointer (some ⟨gb1, 0, none⟩)), (6, .pointer (some ⟨g16, 0, none⟩)), (7, .bool y5.2), (26, .bool y5.2)]) (by kernel_rfl) ?_
      refine gl_case 26 (b := y5.2) (by kernel_rfl) (fun hc22 => ?_) (fun hc22 => ?_)
      · refine gl_pure 1 [0, 3, 7, 26, 27] (K' := [(0, .pointer (some ⟨g0, 0, none⟩)), (3, .pointer (some ⟨gb1, 0, none⟩)), (7, .bool y5.2), (26, .bool true), (27, .pointer (some ⟨g16, 2, none⟩))]) (by kernel_rfl) ?_
        refine gl_loadB (T' := 2) (xp := (.tmp 27)) (v := .int .i64 y5.1.f2) (g := g16) (off := 2) (cs := #[.string y5.1.f0, .string y5.1.f1, .int .i64 y5.1.f2, .slice A10 y5.1.f3.length c11, .slice A12 y5.1.f4.length c13]) (e := 24) (fz := (0, 0)) (by kernel_rfl) (by kernel_rfl) (by kernel_rfl) List.mem_cons_self (by kernel_rfl) ?_
        refine gl_pure 1 [0, 3, 7, 26, 28, 29] (K' := [(0, .pointer (some ⟨g0, 0, none⟩)), (3, .pointer (some ⟨gb1, 0, none⟩)), (7, .bool y5.2), (26, .bool true), (28, .int .i64 y5.1.f2), (29, .pointer (some ⟨gb1, 2, none⟩))]) (by kernel_rfl) ?_
        refine gl_loadB (T' := 2) (xp := (.tmp 29)) (v := .int .i64 a1.f2) (g := gb1) (off := 2) (cs := #[.string a1.f0, .string a1.f1, .int .i64 a1.f2, .slice A1_3 a1.f3.length n1_3, .slice A1_4 a1.f4.length n1_4]) (e := 24) (fz := (0, 0)) (by kernel_rfl) (by kernel_rfl) (by kernel_rfl) (List.mem_cons_of_mem _ (List.mem_cons_of_mem _ (List.mem_append_right _ List.mem_cons_self))) (by kernel_rfl) ?_
        refine gl_pure 3 [0, 3, 7, 24] (K' := [(0, .pointer (some ⟨g0, 0, none⟩)), (3, .pointer (some ⟨gb1, 0, none⟩)), (7, .bool y5.2), (24, .bool (decide (y5.1.f2 > a1.f2)))]) (by kernel_rfl) ?_
        refine gl_atE (by kernel_rfl) ?_
        exact ge_mid fun t ht => ⟨(Imm.refl _), rfl, by rw [(show b19 = (decide (y5.1.f2 > a1.f2)) from hb20.trans (by first | (rw [hc22]; done) | (rw [hc22]; rfl) | (simp [hc22]; done) | (simp only [hc22]; rfl) | (simp at *; omega)))]; exact ht.pick (l := [0, 3, 7, 24]) (by kernel_rfl)⟩
      · refine gl_pure 7 [0, 3, 7, 24] (K' := [(0, .pointer (some ⟨g0, 0, none⟩)), (3, .pointer (some ⟨gb1, 0, none⟩)), (7, .bool y5.2), (24, .bool false)]) (by kernel_rfl) ?_
        refine gl_atE (by kernel_rfl) ?_
        exact ge_mid fun t ht => ⟨(Imm.refl _), rfl, by rw [(show b19 = false from hb20.trans (by first | (rw [hc22]; done) | (rw [hc22]; rfl) | (simp [hc22]; done) | (simp only [hc22]; rfl) | (simp at *; omega)))]; exact ht.pick (l := [0, 3, 7, 24]) (by kernel_rfl)⟩
    · rintro t I21 L' ⟨hI17, rfl, hK18⟩
      subst hb20
      refine ge_at hK18 ?_
      refine ge_seq ?_
      refine gk_cond (b := (y5.2 && (decide (y5.1.f2 > a1.f2)))) (by kernel_rfl) (by kernel_rfl) (fun hc23 => ?_) (fun hc23 => ?_)
      · have hr := cond_t hc23 hr
        refine gk_seq (by kernel_rfl) ?_
        refine gk_region (by kernel_rfl) ?_
        refine gl_pure 1 [4] (K' := [(4, .int .i64 90)]) (by kernel_rfl) ?_
        refine gl_atE (by kernel_rfl) ?_
        refine ge_seq ?_
        refine gk_reord (D := (g0, .cells #[.slice A0_0 a0.f0.f0.length c0_0] T0) :: (C0_0 ++ L)) (Reord.step1 (Upd.one _ (Upd.rm1 _ _)) (Reord.step (Upd.one _ (Upd.rmC _ _)) (Reord.skip (Reord.skip (Reord.refl _))))) ?_
        refine gk_ret (by kernel_rfl) ?_
        refine ge_block_ret ?_
        refine ge_seq_ret ?_
        obtain rfl := some_inj hr
        exact ge_result trivial (ResOk.tmp (by kernel_rfl) ResOk.nil) (Imm.trans hI9 hI17) ⟨A0_0, c0_0, C0_0, (hO0_0.mono (Imm.trans hI9 hI17)), rfl, rfl⟩
      · have hr := cond_f hc23 hr
        refine gk_seq (by kernel_rfl) ?_
        obtain ⟨j24, hj25, hr⟩ := bind_some hr
        refine gk_join (fun t I' L' => I21 ≤ I' ∧ (g0, .cells #[.slice A0_0 a0.f0.f0.length c0_0] T0) :: (C0_0 ++ ((gb1, .cells #[.string a1.f0, .string a1.f1, .int .i64 a1.f2, .slice A1_3 a1.f3.length n1_3, .slice A1_4 a1.f4.length n1_4] 24) :: L)) = L' ∧ Knows 52 [(0, .pointer (some ⟨g0, 0, none⟩)), (3, .pointer (some ⟨gb1, 0, none⟩)), (33, .bool j24)] t) ?_ ?_
        · refine gk_region (by kernel_rfl) ?_
          refine gl_pure 3 [0, 3, 36] (K' := [(0, .pointer (some ⟨g0, 0, none⟩)), (3, .pointer (some ⟨gb1, 0, none⟩)), (36, .bool (!y5.2))]) (by kernel_rfl) ?_
          refine gl_case 36 (b := (!y5.2)) (by kernel_rfl) (fun hc29 => ?_) (fun hc29 => ?_)
          · have hj25 := cond_t hc29 hj25
            refine gl_pure 1 [0, 3, 36, 37] (K' := [(0, .pointer (some ⟨g0, 0, none⟩)), (3, .pointer (some ⟨gb1, 0, none⟩)), (36, .bool true), (37, .pointer (some ⟨g0, 0, none⟩))]) (by kernel_rfl) ?_
            refine gl_reord (D := (g0, .cells #[.slice A0_0 a0.f0.f0.length c0_0] T0) :: (C0_0 ++ ((g16, .cells #[.string y5.1.f0, .string y5.1.f1, .int .i64 y5.1.f2, .slice A10 y5.1.f3.length c11, .slice A12 y5.1.f4.length c13] 24) :: ((gb1, .cells #[.string a1.f0, .string a1.f1, .int .i64 a1.f2, .slice A1_3 a1.f3.length n1_3, .slice A1_4 a1.f4.length n1_4] 24) :: L)))) (Reord.step1 (Upd.one _ (Upd.rm1 _ _)) (Reord.step (Upd.one _ (Upd.rmC _ _)) (Reord.step1 (Upd.rm1 _ _) (Reord.step1 (Upd.rm1 _ _) (Reord.refl _))))) ?_
            refine gl_call (by kernel_rfl) (nflog_Log_Len_walk (r := (nflog_Log_Len a0)) (g0 := g0) (T0 := T0) (A0_0 := A0_0) (c0_0 := c0_0) (C0_0 := C0_0) (a0 := a0) (hO0_0.mono (Imm.trans hI9 hI17)) rfl _) ?_
            rintro v I30 L31 hI32 ⟨rfl, rfl⟩
            refine gl_pure 3 [0, 3, 33] (K' := [(0, .pointer (some ⟨g0, 0, none⟩)), (3, .pointer (some ⟨gb1, 0, none⟩)), (33, .bool (decide ((nflog_Log_Len a0) ≥ 500)))]) (by kernel_rfl) ?_
            refine gl_reord (D := (g0, .cells #[.slice A0_0 a0.f0.f0.length c0_0] T0) :: (C0_0 ++ ((gb1, .cells #[.string a1.f0, .string a1.f1, .int .i64 a1.f2, .slice A1_3 a1.f3.length n1_3, .slice A1_4 a1.f4.length n1_4] 24) :: L))) (Reord.step1 (Upd.rm1 _ _) (Reord.step (Upd.rmC _ _) (Reord.step1 (Upd.one _ (Upd.rm1 _ _)) (Reord.skip (Reord.refl _))))) ?_
            refine gl_atE (by kernel_rfl) ?_
            obtain rfl := some_inj hj25
            exact ge_mid fun t ht => ⟨hI32, rfl, ht.pick (l := [0, 3, 33]) (by kernel_rfl)⟩
          · have hj25 := cond_f hc29 hj25
            refine gl_pure 5 [0, 3, 33] (K' := [(0, .pointer (some ⟨g0, 0, none⟩)), (3, .pointer (some ⟨gb1, 0, none⟩)), (33, .bool false)]) (by kernel_rfl) ?_
            refine gl_reord (D := (g0, .cells #[.slice A0_0 a0.f0.f0.length c0_0] T0) :: (C0_0 ++ ((gb1, .cells #[.string a1.f0, .string a1.f1, .int .i64 a1.f2, .slice A1_3 a1.f3.length n1_3, .slice A1_4 a1.f4.length n1_4] 24) :: L))) (Reord.step1 (Upd.one _ (Upd.rm1 _ _)) (Reord.step (Upd.one _ (Upd.rmC _ _)) (Reord.step1 (Upd.one _ (Upd.rm1 _ _)) (Reord.skip (Reord.refl _))))) ?_
            refine gl_atE (by kernel_rfl) ?_
            obtain rfl := some_inj hj25
            exact ge_mid fun t ht => ⟨(Imm.refl _), rfl, ht.pick (l := [0, 3, 33]) (by kernel_rfl)⟩
        · rintro t I28 L' ⟨hI26, rfl, hK27⟩
          refine ge_at hK27 ?_
          refine ge_seq ?_
          refine gk_cond (b := j24) (by kernel_rfl) (by kernel_rfl) (fun hc33 => ?_) (fun hc33 => ?_)
          · have hr := cond_t hc33 hr
            refine gk_seq (by kernel_rfl) ?_
            refine gk_region (by kernel_rfl) ?_
            refine gl_pure 1 [4] (K' := [(4, .int .i64 8)]) (by kernel_rfl) ?_
            refine gl_atE (by kernel_rfl) ?_
            refine ge_seq ?_
            refine gk_reord (D := (g0, .cells #[.slice A0_0 a0.f0.f0.length c0_0] T0) :: (C0_0 ++ L)) (Reord.step1 (Upd.rm1 _ _) (Reord.step (Upd.rmC _ _) (Reord.skip (Reord.refl _)))) ?_
            refine gk_ret (by kernel_rfl) ?_
            refine ge_block_ret ?_
            refine ge_seq_ret ?_
            obtain rfl := some_inj hr
            exact ge_result trivial (ResOk.tmp (by kernel_rfl) ResOk.nil) (Imm.trans (Imm.trans hI9 hI17) hI26) ⟨A0_0, c0_0, C0_0, (hO0_0.mono (Imm.trans (Imm.trans hI9 hI17) hI26)), rfl, rfl⟩
          · have hr := cond_f hc33 hr
            refine gk_skip (by kernel_rfl) ?_
            refine ge_block_normal ?_
            refine ge_seq ?_
            refine gk_seq (by kernel_rfl) ?_
            refine gk_draw 10 [(0, true), (1, true), (2, true), (3, true), (4, true), (5, true), (6, true), (7, true), (8, true), (9, false)] [(g0, .cells #[.slice A0_0 a0.f0.f0.length c0_0] T0), (gb1, .cells #[.string a1.f0, .string a1.f1, .int .i64 a1.f2, .slice A1_3 a1.f3.length n1_3, .slice A1_4 a1.f4.length n1_4] 24)] (List.forall_mem_cons.2 ⟨List.mem_cons_self, (List.forall_mem_cons.2 ⟨(List.mem_cons_of_mem _ (List.mem_append_right _ List.mem_cons_self)), (fun p hp => by cases hp)⟩)⟩) (by kernel_rfl) (by kernel_rfl) (by kernel_rfl) ?_ (by kernel_rfl)
            refine gd_pure 4 [3, 43, 44] (K' := [(3, .pointer (some ⟨gb1, 0, none⟩)), (43, .pointer (some ⟨g0, 0, none⟩)), (44, .pointer (some ⟨gb1, 0, none⟩))]) (s' := [(4, true), (5, true), (6, true), (7, true), (8, true), (9, false)]) (CC.refl (List.forall_mem_cons.2 ⟨List.mem_cons_self, (List.forall_mem_cons.2 ⟨(List.mem_cons_of_mem _ (List.mem_append_right _ List.mem_cons_self)), (fun p hp => by cases hp)⟩)⟩)) (by kernel_rfl) ?_
            refine gd_q (v := .string a1.f0) (by kernel_rfl) (by kernel_rfl) (CC.refl (List.forall_mem_cons.2 ⟨List.mem_cons_self, (List.forall_mem_cons.2 ⟨(List.mem_cons_of_mem _ (List.mem_append_right _ List.mem_cons_self)), (fun p hp => by cases hp)⟩)⟩)) (fun I' L' T hC kk => gl_loadB (T' := 9) (xp := (.tmp 44)) (v := .string a1.f0) (g := gb1) (off := 0) (cs := #[.string a1.f0, .string a1.f1, .int .i64 a1.f2, .slice A1_3 a1.f3.length n1_3, .slice A1_4 a1.f4.length n1_4]) (e := 24) (fz := (0, 0)) (by kernel_rfl) (by kernel_rfl) (by kernel_rfl) (hC.sub _ (List.mem_cons_of_mem _ List.mem_cons_self)) (by kernel_rfl) kk) ?_
            refine gd_pure 1 [3, 43, 45, 46] (K' := [(3, .pointer (some ⟨gb1, 0, none⟩)), (43, .pointer (some ⟨g0, 0, none⟩)), (45, .string a1.f0), (46, .pointer (some ⟨gb1, 1, none⟩))]) (s' := [(6, true), (7, true), (8, true), (9, false)]) (CC.refl (List.forall_mem_cons.2 ⟨List.mem_cons_self, (List.forall_mem_cons.2 ⟨(List.mem_cons_of_mem _ (List.mem_append_right _ List.mem_cons_self)), (fun p hp => by cases hp)⟩)⟩)) (by kernel_rfl) ?_
            refine gd_q (v := .string a1.f1) (by kernel_rfl) (by kernel_rfl) (CC.refl (List.forall_mem_cons.2 ⟨List.mem_cons_self, (List.forall_mem_cons.2 ⟨(List.mem_cons_of_mem _ (List.mem_append_right _ List.mem_cons_self)), (fun p hp => by cases hp)⟩)⟩)) (fun I' L' T hC kk => gl_loadB (T' := 9) (xp := (.tmp 46)) (v := .string a1.f1) (g := gb1) (off := 1) (cs := #[.string a1.f0, .string a1.f1, .int .i64 a1.f2, .slice A1_3 a1.f3.length n1_3, .slice A1_4 a1.f4.length n1_4]) (e := 24) (fz := (0, 0)) (by kernel_rfl) (by kernel_rfl) (by kernel_rfl) (hC.sub _ (List.mem_cons_of_mem _ List.mem_cons_self)) (by kernel_rfl) kk) ?_
            refine gd_pure 1 [3, 43, 48] (K' := [(3, .pointer (some ⟨gb1, 0, none⟩)), (43, .pointer (some ⟨g0, 0, none⟩)), (48, .agg #[.string a1.f0, .string a1.f1])]) (s' := [(8, true), (9, false)]) (CC.refl (List.forall_mem_cons.2 ⟨List.mem_cons_self, (List.forall_mem_cons.2 ⟨(List.mem_cons_of_mem _ (List.mem_append_right _ List.mem_cons_self)), (fun p hp => by cases hp)⟩)⟩)) (by kernel_rfl) ?_
            refine gd_q (v := .agg #[.string a1.f0, .string a1.f1, .int .i64 a1.f2, .slice A1_3 a1.f3.length n1_3, .slice A1_4 a1.f4.length n1_4]) (by kernel_rfl) (by kernel_rfl) (CC.refl (List.forall_mem_cons.2 ⟨List.mem_cons_self, (List.forall_mem_cons.2 ⟨(List.mem_cons_of_mem _ (List.mem_append_right _ List.mem_cons_self)), (fun p hp => by cases hp)⟩)⟩)) (fun I' L' T hC kk => gl_loadB (T' := 24) (xp := (.tmp 3)) (v := .agg #[.string a1.f0, .string a1.f1, .int .i64 a1.f2, .slice A1_3 a1.f3.length n1_3, .slice A1_4 a1.f4.length n1_4]) (g := gb1) (off := 0) (cs := #[.string a1.f0, .string a1.f1, .int .i64 a1.f2, .slice A1_3 a1.f3.length n1_3, .slice A1_4 a1.f4.length n1_4]) (e := 24) (fz := (0, 0)) (by kernel_rfl) (by kernel_rfl) (by kernel_rfl) (hC.sub _ (List.mem_cons_of_mem _ List.mem_cons_self)) (by kernel_rfl) kk) ?_
            refine gd_one (by kernel_rfl) ?_
            obtain ⟨y34, hx35, hr⟩ := bind_some hr
            refine gl_call (by kernel_rfl) (nflog_own_walk (r := y34) (hf1_3.mono (Imm.trans (Imm.trans hI9 hI17) hI26)) (hf1_4.mono (Imm.trans (Imm.trans hI9 hI17) hI26)) hx35 _) ?_
            rintro v I36 L37 hI38 ⟨A39, c40, A41, c42, hf43, hf44, rfl, rfl⟩
            refine gl_toD (by kernel_rfl) ⟨hI38, (List.forall_mem_cons.2 ⟨List.mem_cons_self, (List.forall_mem_cons.2 ⟨(List.mem_cons_of_mem _ (List.mem_append_right _ List.mem_cons_self)), (fun p hp => by cases hp)⟩)⟩)⟩ ?_
            refine gd_done ?_
            obtain ⟨y45, hx46, hr⟩ := bind_some hr
            refine gl_call (by kernel_rfl) (nflog_list_put_walk (r := y45) (g0 := g0) (T0 := T0) (A0_0 := A0_0) (c0_0 := c0_0) (C0_0 := C0_0) (a0 := a0.f0) (hO0_0.mono (Imm.trans (Imm.trans (Imm.trans hI9 hI17) hI26) hI38)) hf43 hf44 hx46 _) ?_
            rintro v I47 L48 hI49 ⟨A50, c51, C52, hO53, rfl, rfl⟩
            refine gl_atE (by kernel_rfl) ?_
            refine ge_seq ?_
            refine gk_seq (by kernel_rfl) ?_
            refine gk_region (by kernel_rfl) ?_
            refine gl_pure 1 [4] (K' := [(4, .int .i64 0)]) (by kernel_rfl) ?_
            refine gl_atE (by kernel_rfl) ?_
            refine ge_seq ?_
            refine gk_reord (D := (g0, .cells #[.slice A50 y45.f0.length c51] T0) :: (C52 ++ L)) (Reord.step1 (Upd.rm1 _ _) (Reord.step (Upd.rmC _ _) (Reord.skip (Reord.refl _)))) ?_
            refine gk_ret (by kernel_rfl) ?_
            obtain rfl := some_inj hr
            exact ge_result trivial (ResOk.tmp (by kernel_rfl) ResOk.nil) (Imm.trans (Imm.trans (Imm.trans (Imm.trans hI9 hI17) hI26) hI38) hI49) ⟨A50, c51, C52, hO53, rfl, rfl⟩
structure S30 where
  f0 : List S23
def kS30 : Kd S30 := Kd.iso (Kd.sl kS23) (fun x => x.f0)
def wS30 (x : S30) (n : Nat) : Prop := ∃ n0, n0 + 1 ≤ n ∧ (wSl wS23) x.f0 n0
theorem kS30_open {I : Imm} {x : S30} {cs : List Value} (h : kS30.R I x cs) : ∃ A0 c0, RepS kS23 I A0 c0 x.f0 ∧ cs = [.slice A0 x.f0.length c0] := by
  obtain ⟨A_0, c_0, rfl, h_0⟩ := h
  exact ⟨A_0, c_0, h_0, rfl⟩
theorem kS30_mk {I : Imm} {x : S30} {A0 : Option Addr} {c0 : Nat} (h0 : RepS kS23 I A0 c0 x.f0) : kS30.R I x [.slice A0 x.f0.length c0] :=
  ⟨_, _, rfl, h0⟩
structure S37 where
  f0 : Int
  f1 : S23
  f2 : Int
  f3 : Int
def kS37 : Kd S37 := Kd.iso (Kd.pair (Kd.int .i64) (Kd.pair kS23 (Kd.pair (Kd.int .i64) (Kd.int .i64)))) (fun x => (x.f0, x.f1, x.f2, x.f3))
def wS37 (x : S37) (n : Nat) : Prop := ∃ n0 n1 n2 n3, n0 + n1 + n2 + n3 + 1 ≤ n ∧ (wInt .i64) x.f0 n0 ∧ wS23 x.f1 n1 ∧ (wInt .i64) x.f2 n2 ∧ (wInt .i64) x.f3 n3
theorem kS37_open {I : Imm} {x : S37} {cs : List Value} (h : kS37.R I x cs) : ∃ A4 c4 A5 c5, RepS (Kd.sl kS53) I A4 c4 x.f1.f3 ∧ RepS (Kd.sl kS53) I A5 c5 x.f1.f4 ∧ cs = [.int .i64 x.f0, .string x.f1.f0, .string x.f1.f1, .int .i64 x.f1.f2, .slice A4 x.f1.f3.length c4, .slice A5 x.f1.f4.length c5, .int .i64 x.f2, .int .i64 x.f3] := by
  obtain ⟨_, _, rfl, h_0, ⟨_, _, rfl, h_1, ⟨_, _, rfl, h_2, h_3⟩⟩⟩ := h
  obtain rfl := h_0
  obtain ⟨A_1_3, c_1_3, A_1_4, c_1_4, h_1_3, h_1_4, rfl⟩ := kS23_open h_1
  obtain rfl := h_2
  obtain rfl := h_3
  exact ⟨A_1_3, c_1_3, A_1_4, c_1_4, h_1_3, h_1_4, rfl⟩
theorem kS37_mk {I : Imm} {x : S37} {A4 : Option Addr} {c4 : Nat} {A5 : Option Addr} {c5 : Nat} (h4 : RepS (Kd.sl kS53) I A4 c4 x.f1.f3) (h5 : RepS (Kd.sl kS53) I A5 c5 x.f1.f4) : kS37.R I x [.int .i64 x.f0, .string x.f1.f0, .string x.f1.f1, .int .i64 x.f1.f2, .slice A4 x.f1.f3.length c4, .slice A5 x.f1.f4.length c5, .int .i64 x.f2, .int .i64 x.f3] :=
  ⟨[.int .i64 x.f0], [.string x.f1.f0, .string x.f1.f1, .int .i64 x.f1.f2, .slice A4 x.f1.f3.length c4, .slice A5 x.f1.f4.length c5, .int .i64 x.f2, .int .i64 x.f3], rfl, rfl, ⟨[.string x.f1.f0, .string x.f1.f1, .int .i64 x.f1.f2, .slice A4 x.f1.f3.length c4, .slice A5 x.f1.f4.length c5], [.int .i64 x.f2, .int .i64 x.f3], rfl, kS23_mk h4 h5, ⟨[.int .i64 x.f2], [.int .i64 x.f3], rfl, rfl, rfl⟩⟩⟩
/-! 37 tocsinlaw26_lent  -/
noncomputable def tocsinlaw26_lent_l28 (a0 : List (List S53)) : ((List (List S53)) × Int) → Option (((List (List S53)) × Int) ⊕ ((List (List S53)))) := fun s11 =>
  bif (decide (s11.2 < (a0.length : Int))) then
  (Option.bind (ix a0 s11.2) fun (x31 : List S53) =>
    Option.bind (app ([] : List S53) x31) fun (zs42 : List S53) =>
    Option.bind (app s11.1 [zs42]) fun (zs56 : List (List S53)) =>
    some (Sum.inl (zs56, (IntKind.wrap .i64 (s11.2 + 1)))))
  else
  (some (Sum.inr s11.1))
noncomputable def tocsinlaw26_lent (a0 : List (List S53)) : Option (List (List S53)) :=
  Option.bind (loopO (tocsinlaw26_lent_l28 a0) ([], 0)) fun (r9 : (List (List S53))) =>
  some r9
theorem tocsinlaw26_lent_walk {a0 : List (List S53)} {A0_0 : Option Addr} {n0_0 : Nat} {I : Imm} {r : (List (List S53))}  (hf0_0 : RepS (Kd.sl kS53) I A0_0 n0_0 a0) (hr : tocsinlaw26_lent a0 = some r) (L : Own) :
    CallsTo Tryd.prog 37 #[.slice A0_0 a0.length n0_0] I L (fun v I' L' => ∃ A0 c0 C0, OwnS (Kd.sl kS53) 25 I' A0 c0 r C0 ∧ v = .slice A0 r.length c0 ∧ C0 ++ L = L') := by
  unfold tocsinlaw26_lent at hr
  refine callsTo_body (N := 21) Tryd.func37 (by kernel_rfl) (by kernel_rfl) (by kernel_rfl) ?_
  refine gk_pick [0] (K' := [(0, .slice A0_0 a0.length n0_0)]) (by kernel_rfl) ?_
  refine gk_seq (by kernel_rfl) ?_
  refine gk_region (by kernel_rfl) ?_
  refine gl_pure 1 [0] (K' := [(0, .slice A0_0 a0.length n0_0)]) (by kernel_rfl) ?_
  refine gl_atE (by kernel_rfl) ?_
  refine ge_seq ?_
  refine gk_seq (by kernel_rfl) ?_
  refine gk_region (by kernel_rfl) ?_
  refine gl_pure 1 [0, 3] (K' := [(0, .slice A0_0 a0.length n0_0), (3, .slice none 0 0)]) (by kernel_rfl) ?_
  refine gl_atE (by kernel_rfl) ?_
  refine ge_seq ?_
  refine gk_seq (by kernel_rfl) ?_
  refine gk_seq (by kernel_rfl) ?_
  refine gk_region (by kernel_rfl) ?_
  refine gl_pure 3 [3, 7, 8, 9] (K' := [(3, .slice none 0 0), (7, .slice A0_0 a0.length n0_0), (8, .int .i64 (a0.length : Int)), (9, .int .i64 0)]) (by kernel_rfl) ?_
  refine gl_atE (by kernel_rfl) ?_
  refine ge_seq ?_
  obtain ⟨r9, hl10, hr⟩ := bind_some hr
  refine gk_join (fun t I' L' => ∃ A22 n23 C24, OwnS (Kd.sl kS53) 25 I' A22 n23 r9 C24 ∧ I ≤ I' ∧ C24 ++ L = L' ∧ Knows 21 [(3, .slice A22 r9.length n23)] t) ?_ ?_
  · refine gk_block (by kernel_rfl) ?_
    refine gk_pick [3, 7, 8, 9] (K' := [(3, .slice none 0 0), (7, .slice A0_0 a0.length n0_0), (8, .int .i64 (a0.length : Int)), (9, .int .i64 0)]) (by kernel_rfl) ?_
    intro t hK
    refine gc_loop (tocsinlaw26_lent_l28 a0) (fun s11 t I' L' => ∃ A15 n16 C17, OwnS (Kd.sl kS53) 25 I' A15 n16 s11.1 C17 ∧ I ≤ I' ∧ C17 ++ L = L' ∧ Knows 21 [(3, .slice A15 s11.1.length n16), (7, .slice A0_0 a0.length n0_0), (8, .int .i64 (a0.length : Int)), (9, .int .i64 s11.2)] t) (by kernel_rfl) ?_ hl10 ⟨none, 0, [], OwnS.nil _ _ _ _, (Imm.refl _), rfl, hK⟩
    rintro s11 o12 t I20 L' hb13 ⟨A15, n16, C17, hO18, hI14, rfl, hK19⟩
    unfold tocsinlaw26_lent_l28 at hb13
    refine gk_at hK19 ?_
    refine gk_seq (by kernel_rfl) ?_
    refine gk_region (by kernel_rfl) ?_
    refine gl_pure 1 [3, 7, 8, 9, 10] (K' := [(3, .slice A15 s11.1.length n16), (7, .slice A0_0 a0.length n0_0), (8, .int .i64 (a0.length : Int)), (9, .int .i64 s11.2), (10, .bool (decide (s11.2 < (a0.length : Int))))]) (by kernel_rfl) ?_
    refine gl_atE (by kernel_rfl) ?_
    refine ge_seq ?_
    refine gk_seq (by kernel_rfl) ?_
    refine gk_cond (b := (decide (s11.2 < (a0.length : Int)))) (by kernel_rfl) (by kernel_rfl) (fun hc30 => ?_) (fun hc30 => ?_)
    · have hb13 := cond_t hc30 hb13
      refine gk_skip (by kernel_rfl) ?_
      refine ge_seq ?_
      refine gk_seq (by kernel_rfl) ?_
      refine gk_block (by kernel_rfl) ?_
      refine gk_seq (by kernel_rfl) ?_
      refine gk_region (by kernel_rfl) ?_
      obtain ⟨x31, hx32, hb13⟩ := bind_some hb13
      obtain ⟨p33, cs34, hR35, hA36, ha37⟩ := RepS.ixAt hx32 (hf0_0.mono hI14)
      have hi38 := ix_some hx32
      obtain ⟨A39, n40, rfl, hf41⟩ := sl_open hR35
      refine gl_indexAddrF (c := n0_0) (T' := 22) (e := 25) (xs := (.tmp 7)) (xi := (.tmp 9)) (kd := .i64) ha37 hi38.1 hi38.2.1 (by kernel_rfl) (by kernel_rfl) (by kernel_rfl) (by kernel_rfl) (by kernel_rfl) ?_
      refine gl_load (T' := 25) (xp := (.tmp 11)) (p := p33) (c := .slice A39 x31.length n40) (n := 1) (by kernel_rfl) (by kernel_rfl) (by kernel_rfl) (by kernel_rfl) hA36 ?_
      refine gl_pure 1 [3, 5, 7, 8, 9] (K' := [(3, .slice A15 s11.1.length n16), (5, .slice A39 x31.length n40), (7, .slice A0_0 a0.length n0_0), (8, .int .i64 (a0.length : Int)), (9, .int .i64 s11.2)]) (by kernel_rfl) ?_
      refine gl_atE (by kernel_rfl) ?_
      refine ge_seq ?_
      refine gk_seq (by kernel_rfl) ?_
      refine gk_region (by kernel_rfl) ?_
      refine gl_pure 1 [3, 5, 6, 7, 8, 9] (K' := [(3, .slice A15 s11.1.length n16), (5, .slice A39 x31.length n40), (6, .slice none 0 0), (7, .slice A0_0 a0.length n0_0), (8, .int .i64 (a0.length : Int)), (9, .int .i64 s11.2)]) (by kernel_rfl) ?_
      refine gl_atE (by kernel_rfl) ?_
      refine ge_seq ?_
      refine gk_region (by kernel_rfl) ?_
      refine gl_pure 3 [7, 8, 9, 13, 14, 15] (K' := [(7, .slice A0_0 a0.length n0_0), (8, .int .i64 (a0.length : Int)), (9, .int .i64 s11.2), (13, .slice A15 s11.1.length n16), (14, .slice none 0 0), (15, .slice A39 x31.length n40)]) (by kernel_rfl) ?_
      obtain ⟨zs42, hz43, hb13⟩ := bind_some hb13
      refine gl_append (xv := .slice A39 x31.length n40) (d := kS53) (t := 25) (tx := 25) (e := 54) (s := (.tmp 14)) (x := (.tmp 15)) (xs := []) (A := none) (c := 0) (C := []) (fun X => X ++ (C17 ++ L)) hz43 (by kernel_rfl) (by kernel_rfl) (by kernel_rfl) (by kernel_rfl) (by kernel_rfl) (by kernel_rfl) (fun X => Upd.new X _) (OwnS.nil _ _ _ none) (SrcOk.slice (c := n40) (e := 54) (n := 2) (RepS.rd hf41 _) (by kernel_rfl)) (fun A44 n45 C46 hO47 => ?_)
      refine gl_rest (Tk.step (Upd.rmC _ _) (Tk.nil _)) (fun J48 hJ49 hC50 => ?_)
      have hf51 := (OwnS.rest hO47 hJ49 hC50.left)
      refine gl_buildSlice (T' := 22) (e := 25) (n := 1) (len := 1) (parts := #[(0, (.tmp 16))]) (l := [(0, .slice A44 zs42.length n45)]) (cs := #[.slice A44 zs42.length n45]) (by kernel_rfl) (by kernel_rfl) (by kernel_rfl) (by kernel_rfl) (by kernel_rfl) (fun g52 => ?_)
      have hO53 : OwnS (Kd.sl kS53) 25 J48 (some ⟨g52, 0, none⟩) 1 [zs42] [(g52, .cells #[.slice A44 zs42.length n45] 25)] := OwnS.lit (row_cons (l := [.slice A44 zs42.length n45]) ⟨_, _, rfl, hf51⟩ (row_nil _ _)) rfl rfl rfl
      refine gl_reord (D := [(g52, .cells #[.slice A44 zs42.length n45] 25)] ++ (C17 ++ L)) (Reord.refl _) ?_
      obtain ⟨zs56, hz57, hb13⟩ := bind_some hb13
      refine gl_append (xv := .slice (some ⟨g52, 0, none⟩) [zs42].length 1) (d := (Kd.sl kS53)) (t := 22) (tx := 22) (e := 25) (s := (.tmp 13)) (x := (.tmp 17)) (xs := s11.1) (fun X => [(g52, .cells #[.slice A44 zs42.length n45] 25)] ++ (X ++ L)) hz57 (by kernel_rfl) (by kernel_rfl) (by kernel_rfl) (by kernel_rfl) (by kernel_rfl) (by kernel_rfl) (fun X => (Upd.app _ (Upd.head _ X _))) (hO18.mono hJ49) (SrcOk.slice (c := 1) (e := 25) (n := 1) (OwnS.rd hO53 (Upd.selfC _ _)) (by kernel_rfl)) (fun A58 n59 C60 hO61 => ?_)
      refine gl_pure 1 [3, 7, 8, 9] (K' := [(3, .slice A58 zs56.length n59), (7, .slice A0_0 a0.length n0_0), (8, .int .i64 (a0.length : Int)), (9, .int .i64 s11.2)]) (by kernel_rfl) ?_
      refine gl_atE (by kernel_rfl) ?_
      refine ge_block_normal ?_
      refine ge_seq ?_
      refine gk_region (by kernel_rfl) ?_
      refine gl_pure 2 [3, 7, 8, 9] (K' := [(3, .slice A58 zs56.length n59), (7, .slice A0_0 a0.length n0_0), (8, .int .i64 (a0.length : Int)), (9, .int .i64 (IntKind.wrap .i64 (s11.2 + 1)))]) (by kernel_rfl) ?_
      refine gl_reord (D := C60 ++ L) (Reord.step (Upd.app _ (Upd.rmC _ _)) (Reord.skipC (Reord.refl _))) ?_
      refine gl_atE (by kernel_rfl) ?_
      obtain rfl := some_inj hb13
      exact ge_round fun t ht => ⟨A58, n59, C60, hO61, (Imm.trans hI14 hJ49), rfl, ht.pick (l := [3, 7, 8, 9]) (by kernel_rfl)⟩
    · have hb13 := cond_f hc30 hb13
      refine gk_exit (by kernel_rfl) ?_
      refine ge_seq_exit ?_
      obtain rfl := some_inj hb13
      refine ge_round_out (fun hrr => ?_) (by intro h; cases h)
      obtain rfl := hrr
      refine ge_block_hit (by kernel_rfl) ?_
      exact ge_mid fun t ht => ⟨A15, n16, C17, hO18, hI14, rfl, ht.pick (l := [3]) (by kernel_rfl)⟩
  · rintro t I27 L' ⟨A22, n23, C24, hO25, hI21, rfl, hK26⟩
    refine ge_at hK26 ?_
    refine ge_seq ?_
    refine gk_seq (by kernel_rfl) ?_
    refine gk_region (by kernel_rfl) ?_
    refine gl_pure 2 [2] (K' := [(2, .slice A22 r9.length n23)]) (by kernel_rfl) ?_
    refine gl_atE (by kernel_rfl) ?_
    refine ge_seq ?_
    refine gk_ret (by kernel_rfl) ?_
    obtain rfl := some_inj hr
    exact ge_result trivial (ResOk.tmp (by kernel_rfl) ResOk.nil) hI21 ⟨A22, n23, C24, hO25, rfl, rfl⟩
theorem tocsinlaw26_lent_walkF {J0 : Imm} {a0 : List (List S53)} {A0_0 : Option Addr} {n0_0 : Nat} {I : Imm} {r : (List (List S53))}  (hf0_0 : RepS (Kd.sl kS53) I A0_0 n0_0 a0) (hJ0 : J0 ≤ I) (hr : tocsinlaw26_lent a0 = some r) (L : Own) :
    CallsTo Tryd.prog 37 #[.slice A0_0 a0.length n0_0] I L (fun v I' L' => ∃ A0 c0 C0, OwnS (Kd.fr J0 kS53 54) 25 I' A0 c0 r C0 ∧ v = .slice A0 r.length c0 ∧ C0 ++ L = L') := by
  unfold tocsinlaw26_lent at hr
  refine callsTo_body (N := 21) Tryd.func37 (by kernel_rfl) (by kernel_rfl) (by kernel_rfl) ?_
  refine gk_pick [0] (K' := [(0, .slice A0_0 a0.length n0_0)]) (by kernel_rfl) ?_
  refine gk_seq (by kernel_rfl) ?_
  refine gk_region (by kernel_rfl) ?_
  refine gl_pure 1 [0] (K' := [(0, .slice A0_0 a0.length n0_0)]) (by kernel_rfl) ?_
  refine gl_atE (by kernel_rfl) ?_
  refine ge_seq ?_
  refine gk_seq (by kernel_rfl) ?_
  refine gk_region (by kernel_rfl) ?_
  refine gl_pure 1 [0, 3] (K' := [(0, .slice A0_0 a0.length n0_0), (3, .slice none 0 0)]) (by kernel_rfl) ?_
  refine gl_atE (by kernel_rfl) ?_
  refine ge_seq ?_
  refine gk_seq (by kernel_rfl) ?_
  refine gk_seq (by kernel_rfl) ?_
  refine gk_region (by kernel_rfl) ?_
  refine gl_pure 3 [3, 7, 8, 9] (K' := [(3, .slice none 0 0), (7, .slice A0_0 a0.length n0_0), (8, .int .i64 (a0.length : Int)), (9, .int .i64 0)]) (by kernel_rfl) ?_
  refine gl_atE (by kernel_rfl) ?_
  refine ge_seq ?_
  obtain ⟨r9, hl10, hr⟩ := bind_some hr
  refine gk_join (fun t I' L' => ∃ A22 n23 C24, OwnS (Kd.fr J0 kS53 54) 25 I' A22 n23 r9 C24 ∧ I ≤ I' ∧ C24 ++ L = L' ∧ Knows 21 [(3, .slice A22 r9.length n23)] t) ?_ ?_
  · refine gk_block (by kernel_rfl) ?_
    refine gk_pick [3, 7, 8, 9] (K' := [(3, .slice none 0 0), (7, .slice A0_0 a0.length n0_0), (8, .int .i64 (a0.length : Int)), (9, .int .i64 0)]) (by kernel_rfl) ?_
    intro t hK
    refine gc_loop (tocsinlaw26_lent_l28 a0) (fun s11 t I' L' => ∃ A15 n16 C17, OwnS (Kd.fr J0 kS53 54) 25 I' A15 n16 s11.1 C17 ∧ I ≤ I' ∧ C17 ++ L = L' ∧ Knows 21 [(3, .slice A15 s11.1.length n16), (7, .slice A0_0 a0.length n0_0), (8, .int .i64 (a0.length : Int)), (9, .int .i64 s11.2)] t) (by kernel_rfl) ?_ hl10 ⟨none, 0, [], OwnS.nil _ _ _ _, (Imm.refl _), rfl, hK⟩
    rintro s11 o12 t I20 L' hb13 ⟨A15, n16, C17, hO18, hI14, rfl, hK19⟩
    unfold tocsinlaw26_lent_l28 at hb13
    refine gk_at hK19 ?_
    refine gk_seq (by kernel_rfl) ?_
    refine gk_region (by kernel_rfl) ?_
    refine gl_pure 1 [3, 7, 8, 9, 10] (K' := [(3, .slice A15 s11.1.length n16), (7, .slice A0_0 a0.length n0_0), (8, .int .i64 (a0.length : Int)), (9, .int .i64 s11.2), (10, .bool (decide (s11.2 < (a0.length : Int))))]) (by kernel_rfl) ?_
    refine gl_atE (by kernel_rfl) ?_
    refine ge_seq ?_
    refine gk_seq (by kernel_rfl) ?_
    refine gk_cond (b := (decide (s11.2 < (a0.length : Int)))) (by kernel_rfl) (by kernel_rfl) (fun hc30 => ?_) (fun hc30 => ?_)
    · have hb13 := cond_t hc30 hb13
      refine gk_skip (by kernel_rfl) ?_
      refine ge_seq ?_
      refine gk_seq (by kernel_rfl) ?_
      refine gk_block (by kernel_rfl) ?_
      refine gk_seq (by kernel_rfl) ?_
      refine gk_region (by kernel_rfl) ?_
      obtain ⟨x31, hx32, hb13⟩ := bind_some hb13
      obtain ⟨p33, cs34, hR35, hA36, ha37⟩ := RepS.ixAt hx32 (hf0_0.mono hI14)
      have hi38 := ix_some hx32
      obtain ⟨A39, n40, rfl, hf41⟩ := sl_open hR35
      refine gl_indexAddrF (c := n0_0) (T' := 22) (e := 25) (xs := (.tmp 7)) (xi := (.tmp 9)) (kd := .i64) ha37 hi38.1 hi38.2.1 (by kernel_rfl) (by kernel_rfl) (by kernel_rfl) (by kernel_rfl) (by kernel_rfl) ?_
      refine gl_load (T' := 25) (xp := (.tmp 11)) (p := p33) (c := .slice A39 x31.length n40) (n := 1) (by kernel_rfl) (by kernel_rfl) (by kernel_rfl) (by kernel_rfl) hA36 ?_
      refine gl_pure 1 [3, 5, 7, 8, 9] (K' := [(3, .slice A15 s11.1.length n16), (5, .slice A39 x31.length n40), (7, .slice A0_0 a0.length n0_0), (8, .int .i64 (a0.length : Int)), (9, .int .i64 s11.2)]) (by kernel_rfl) ?_
      refine gl_atE (by kernel_rfl) ?_
      refine ge_seq ?_
      refine gk_seq (by kernel_rfl) ?_
      refine gk_region (by kernel_rfl) ?_
      refine gl_pure 1 [3, 5, 6, 7, 8, 9] (K' := [(3, .slice A15 s11.1.length n16), (5, .slice A39 x31.length n40), (6, .slice none 0 0), (7, .slice A0_0 a0.length n0_0), (8, .int .i64 (a0.length : Int)), (9, .int .i64 s11.2)]) (by kernel_rfl) ?_
      refine gl_atE (by kernel_rfl) ?_
      refine ge_seq ?_
      refine gk_region (by kernel_rfl) ?_
      refine gl_pure 3 [7, 8, 9, 13, 14, 15] (K' := [(7, .slice A0_0 a0.length n0_0), (8, .int .i64 (a0.length : Int)), (9, .int .i64 s11.2), (13, .slice A15 s11.1.length n16), (14, .slice none 0 0), (15, .slice A39 x31.length n40)]) (by kernel_rfl) ?_
      obtain ⟨zs42, hz43, hb13⟩ := bind_some hb13
      refine gl_append (xv := .slice A39 x31.length n40) (d := kS53) (t := 25) (tx := 25) (e := 54) (s := (.tmp 14)) (x := (.tmp 15)) (xs := []) (A := none) (c := 0) (C := []) (fun X => X ++ (C17 ++ L)) hz43 (by kernel_rfl) (by kernel_rfl) (by kernel_rfl) (by kernel_rfl) (by kernel_rfl) (by kernel_rfl) (fun X => Upd.new X _) (OwnS.nil _ _ _ none) (SrcOk.slice (c := n40) (e := 54) (n := 2) (RepS.rd hf41 _) (by kernel_rfl)) (fun A44 n45 C46 hO47 => ?_)
      refine gl_restF (Tk.step (Upd.rmC _ _) (Tk.nil _)) (fun J48 hJ49 hC50 hNN => ?_)
      have hf51 := (OwnS.rest hO47 hJ49 hC50.left)
      refine gl_buildSlice (T' := 22) (e := 25) (n := 1) (len := 1) (parts := #[(0, (.tmp 16))]) (l := [(0, .slice A44 zs42.length n45)]) (cs := #[.slice A44 zs42.length n45]) (by kernel_rfl) (by kernel_rfl) (by kernel_rfl) (by kernel_rfl) (by kernel_rfl) (fun g52 => ?_)
      have hO53 : OwnS (Kd.fr J0 kS53 54) 25 J48 (some ⟨g52, 0, none⟩) 1 [zs42] [(g52, .cells #[.slice A44 zs42.length n45] 25)] := OwnS.lit (row_cons (l := [.slice A44 zs42.length n45]) (fr_rest hO47 hJ49 hC50.left (fun p hp => hNN J0 (Imm.trans hJ0 hI14) p (List.mem_append_left _ hp))) (row_nil _ _)) rfl rfl rfl
      refine gl_reord (D := [(g52, .cells #[.slice A44 zs42.length n45] 25)] ++ (C17 ++ L)) (Reord.refl _) ?_
      obtain ⟨zs56, hz57, hb13⟩ := bind_some hb13
      refine gl_append (xv := .slice (some ⟨g52, 0, none⟩) [zs42].length 1) (d := (Kd.fr J0 kS53 54)) (t := 22) (tx := 22) (e := 25) (s := (.tmp 13)) (x := (.tmp 17)) (xs := s11.1) (fun X => [(g52, .cells #[.slice A44 zs42.length n45] 25)] ++ (X ++ L)) hz57 (by kernel_rfl) (by kernel_rfl) (by kernel_rfl) (by kernel_rfl) (by kernel_rfl) (by kernel_rfl) (fun X => (Upd.app _ (Upd.head _ X _))) (hO18.mono hJ49) (SrcOk.slice (c := 1) (e := 25) (n := 1) (OwnS.rd hO53 (Upd.selfC _ _)) (by kernel_rfl)) (fun A58 n59 C60 hO61 => ?_)
      refine gl_pure 1 [3, 7, 8, 9] (K' := [(3, .slice A58 zs56.length n59), (7, .slice A0_0 a0.length n0_0), (8, .int .i64 (a0.length : Int)), (9, .int .i64 s11.2)]) (by kernel_rfl) ?_
      refine gl_atE (by kernel_rfl) ?_
      refine ge_block_normal ?_
      refine ge_seq ?_
      refine gk_region (by kernel_rfl) ?_
      refine gl_pure 2 [3, 7, 8, 9] (K' := [(3, .slice A58 zs56.length n59), (7, .slice A0_0 a0.length n0_0), (8, .int .i64 (a0.length : Int)), (9, .int .i64 (IntKind.wrap .i64 (s11.2 + 1)))]) (by kernel_rfl) ?_
      refine gl_reord (D := C60 ++ L) (Reord.step (Upd.app _ (Upd.rmC _ _)) (Reord.skipC (Reord.refl _))) ?_
      refine gl_atE (by kernel_rfl) ?_
      obtain rfl := some_inj hb13
      exact ge_round fun t ht => ⟨A58, n59, C60, hO61, (Imm.trans hI14 hJ49), rfl, ht.pick (l := [3, 7, 8, 9]) (by kernel_rfl)⟩
    · have hb13 := cond_f hc30 hb13
      refine gk_exit (by kernel_rfl) ?_
      refine ge_seq_exit ?_
      obtain rfl := some_inj hb13
      refine ge_round_out (fun hrr => ?_) (by intro h; cases h)
      obtain rfl := hrr
      refine ge_block_hit (by kernel_rfl) ?_
      exact ge_mid fun t ht => ⟨A15, n16, C17, hO18, hI14, rfl, ht.pick (l := [3]) (by kernel_rfl)⟩
  · rintro t I27 L' ⟨A22, n23, C24, hO25, hI21, rfl, hK26⟩
    refine ge_at hK26 ?_
    refine ge_seq ?_
    refine gk_seq (by kernel_rfl) ?_
    refine gk_region (by kernel_rfl) ?_
    refine gl_pure 2 [2] (K' := [(2, .slice A22 r9.length n23)]) (by kernel_rfl) ?_
    refine gl_atE (by kernel_rfl) ?_
    refine ge_seq ?_
    refine gk_ret (by kernel_rfl) ?_
    obtain rfl := some_inj hr
    exact ge_result trivial (ResOk.tmp (by kernel_rfl) ResOk.nil) hI21 ⟨A22, n23, C24, hO25, rfl, rfl⟩
/-! 19 tocsinlaw26_mark  -/
noncomputable def tocsinlaw26_mark (a0 : S23) : Option S23 :=
  Option.bind (tocsinlaw26_lent a0.f3) fun (y3 : (List (List S53))) =>
  Option.bind (tocsinlaw26_lent a0.f4) fun (y12 : (List (List S53))) =>
  some (⟨a0.f0, a0.f1, a0.f2, y3, y12⟩ : S23)
theorem tocsinlaw26_mark_walk {a0 : S23} {A0_3 : Option Addr} {n0_3 : Nat} {A0_4 : Option Addr} {n0_4 : Nat} {I : Imm} {r : S23}  (hf0_3 : RepS (Kd.sl kS53) I A0_3 n0_3 a0.f3) (hf0_4 : RepS (Kd.sl kS53) I A0_4 n0_4 a0.f4) (hr : tocsinlaw26_mark a0 = some r) (L : Own) :
    CallsTo Tryd.prog 19 #[.agg #[.string a0.f0, .string a0.f1, .int .i64 a0.f2, .slice A0_3 a0.f3.length n0_3, .slice A0_4 a0.f4.length n0_4]] I L (fun v I' L' => ∃ A0_3 c0_3 A0_4 c0_4, RepS (Kd.sl kS53) I' A0_3 c0_3 r.f3 ∧ RepS (Kd.sl kS53) I' A0_4 c0_4 r.f4 ∧ v = .agg #[.string r.f0, .string r.f1, .int .i64 r.f2, .slice A0_3 r.f3.length c0_3, .slice A0_4 r.f4.length c0_4] ∧ L = L') := by
  unfold tocsinlaw26_mark at hr
  refine callsTo_body (N := 12) Tryd.func19 (by kernel_rfl) (by kernel_rfl) (by kernel_rfl) ?_
  refine gk_pick [0] (K' := [(0, .agg #[.string a0.f0, .string a0.f1, .int .i64 a0.f2, .slice A0_3 a0.f3.length n0_3, .slice A0_4 a0.f4.length n0_4])]) (by kernel_rfl) ?_
  refine gk_seq (by kernel_rfl) ?_
  refine gk_region (by kernel_rfl) ?_
  refine gl_box (T' := 24) (x := (.tmp 0)) (v := .agg #[.string a0.f0, .string a0.f1, .int .i64 a0.f2, .slice A0_3 a0.f3.length n0_3, .slice A0_4 a0.f4.length n0_4]) (cs := #[.string a0.f0, .string a0.f1, .int .i64 a0.f2, .slice A0_3 a0.f3.length n0_3, .slice A0_4 a0.f4.length n0_4]) (by kernel_rfl) (by kernel_rfl) (by kernel_rfl) (by kernel_rfl) (fun g1 => ?_)
  refine gl_alloc (T' := 24) (cs := #[.string (⟨#[]⟩ : ByteArray), .string (⟨#[]⟩ : ByteArray), .int .i64 0, .slice none 0 0, .slice none 0 0]) (by kernel_rfl) (by kernel_rfl) (by kernel_rfl) (fun g2 => ?_)
  refine gl_atE (by kernel_rfl) ?_
  refine ge_seq ?_
  refine gk_seq (by kernel_rfl) ?_
  refine gk_region (by kernel_rfl) ?_
  refine gl_pure 1 [1, 2, 3] (K' := [(1, .pointer (some ⟨g1, 0, none⟩)), (2, .pointer (some ⟨g2, 0, none⟩)), (3, .pointer (some ⟨g1, 3, none⟩))]) (by kernel_rfl) ?_
  refine gl_loadB (T' := 22) (xp := (.tmp 3)) (v := .slice A0_3 a0.f3.length n0_3) (g := g1) (off := 3) (cs := #[.string a0.f0, .string a0.f1, .int .i64 a0.f2, .slice A0_3 a0.f3.length n0_3, .slice A0_4 a0.f4.length n0_4]) (e := 24) (fz := (0, 0)) (by kernel_rfl) (by kernel_rfl) (by kernel_rfl) (List.mem_cons_of_mem _ List.mem_cons_self) (by kernel_rfl) ?_
  obtain ⟨y3, hx4, hr⟩ := bind_some hr
  refine gl_call (by kernel_rfl) (tocsinlaw26_lent_walk (r := y3) hf0_3 hx4 _) ?_
  rintro v I5 L6 hI7 ⟨A8, c9, C10, hO11, rfl, rfl⟩
  refine gl_pure 1 [1, 2, 5, 6] (K' := [(1, .pointer (some ⟨g1, 0, none⟩)), (2, .pointer (some ⟨g2, 0, none⟩)), (5, .slice A8 y3.length c9), (6, .pointer (some ⟨g1, 3, none⟩))]) (by kernel_rfl) ?_
  refine gl_storeB (T' := 22) (xp := (.tmp 6)) (xv := (.tmp 5)) (v := .slice A8 y3.length c9) (g := g1) (off := 3) (cs := #[.string a0.f0, .string a0.f1, .int .i64 a0.f2, .slice A0_3 a0.f3.length n0_3, .slice A0_4 a0.f4.length n0_4]) (cs' := #[.string a0.f0, .string a0.f1, .int .i64 a0.f2, .slice A8 y3.length c9, .slice A0_4 a0.f4.length n0_4]) (by kernel_rfl) (by kernel_rfl) (by kernel_rfl) (by kernel_rfl) (by kernel_rfl) (Upd.app _ (Upd.one _ (Upd.set _ _ _ _))) ?_ (by kernel_rfl)
  refine gl_atE (by kernel_rfl) ?_
  refine ge_seq ?_
  refine gk_seq (by kernel_rfl) ?_
  refine gk_region (by kernel_rfl) ?_
  refine gl_pure 1 [1, 2, 7] (K' := [(1, .pointer (some ⟨g1, 0, none⟩)), (2, .pointer (some ⟨g2, 0, none⟩)), (7, .pointer (some ⟨g1, 4, none⟩))]) (by kernel_rfl) ?_
  refine gl_loadB (T' := 22) (xp := (.tmp 7)) (v := .slice A0_4 a0.f4.length n0_4) (g := g1) (off := 4) (cs := #[.string a0.f0, .string a0.f1, .int .i64 a0.f2, .slice A8 y3.length c9, .slice A0_4 a0.f4.length n0_4]) (e := 24) (fz := (0, 0)) (by kernel_rfl) (by kernel_rfl) (by kernel_rfl) (List.mem_append_right _ (List.mem_cons_of_mem _ List.mem_cons_self)) (by kernel_rfl) ?_
  obtain ⟨y12, hx13, hr⟩ := bind_some hr
  refine gl_call (by kernel_rfl) (tocsinlaw26_lent_walk (r := y12) (hf0_4.mono hI7) hx13 _) ?_
  rintro v I14 L15 hI16 ⟨A17, c18, C19, hO20, rfl, rfl⟩
  refine gl_pure 1 [1, 2, 9, 10] (K' := [(1, .pointer (some ⟨g1, 0, none⟩)), (2, .pointer (some ⟨g2, 0, none⟩)), (9, .slice A17 y12.length c18), (10, .pointer (some ⟨g1, 4, none⟩))]) (by kernel_rfl) ?_
  refine gl_storeB (T' := 22) (xp := (.tmp 10)) (xv := (.tmp 9)) (v := .slice A17 y12.length c18) (g := g1) (off := 4) (cs := #[.string a0.f0, .string a0.f1, .int .i64 a0.f2, .slice A8 y3.length c9, .slice A0_4 a0.f4.length n0_4]) (cs' := #[.string a0.f0, .string a0.f1, .int .i64 a0.f2, .slice A8 y3.length c9, .slice A17 y12.length c18]) (by kernel_rfl) (by kernel_rfl) (by kernel_rfl) (by kernel_rfl) (by kernel_rfl) (Upd.app _ (Upd.app _ (Upd.one _ (Upd.set _ _ _ _)))) ?_ (by kernel_rfl)
  refine gl_atE (by kernel_rfl) ?_
  refine ge_seq ?_
  refine gk_seq (by kernel_rfl) ?_
  refine gk_region (by kernel_rfl) ?_
  refine gl_loadB (T' := 24) (xp := (.tmp 1)) (v := .agg #[.string a0.f0, .string a0.f1, .int .i64 a0.f2, .slice A8 y3.length c9, .slice A17 y12.length c18]) (g := g1) (off := 0) (cs := #[.string a0.f0, .string a0.f1, .int .i64 a0.f2, .slice A8 y3.length c9, .slice A17 y12.length c18]) (e := 24) (fz := (0, 0)) (by kernel_rfl) (by kernel_rfl) (by kernel_rfl) (List.mem_append_right _ (List.mem_append_right _ (List.mem_cons_of_mem _ List.mem_cons_self))) (by kernel_rfl) ?_
  refine gl_storeB (T' := 24) (xp := (.tmp 2)) (xv := (.tmp 11)) (v := .agg #[.string a0.f0, .string a0.f1, .int .i64 a0.f2, .slice A8 y3.length c9, .slice A17 y12.length c18]) (g := g2) (off := 0) (cs := #[.string (⟨#[]⟩ : ByteArray), .string (⟨#[]⟩ : ByteArray), .int .i64 0, .slice none 0 0, .slice none 0 0]) (cs' := #[.string a0.f0, .string a0.f1, .int .i64 a0.f2, .slice A8 y3.length c9, .slice A17 y12.length c18]) (by kernel_rfl) (by kernel_rfl) (by kernel_rfl) (by kernel_rfl) (by kernel_rfl) (Upd.app _ (Upd.app _ (Upd.set _ _ _ _))) ?_ (by kernel_rfl)
  refine gl_atE (by kernel_rfl) ?_
  refine ge_seq ?_
  refine gk_rest (Tk.step (Upd.rmC _ _) (Tk.step (Upd.rmC _ _) (Tk.step (Upd.rm1 _ _) (Tk.nil _)))) (fun J21 hJ22 hC23 => ?_)
  have hf24 := (OwnS.rest hO20 hJ22 hC23.left)
  have hf25 := (OwnS.rest (hO11.mono hI16) hJ22 hC23.right.left)
  have hf26 := hC23.right.right.left.blk
  refine gk_reord (D := L) (Reord.skip (Reord.refl _)) ?_
  refine gk_ret (by kernel_rfl) ?_
  obtain rfl := some_inj hr
  exact ge_result trivial (ResOk.cell (v := .agg #[.string a0.f0, .string a0.f1, .int .i64 a0.f2, .slice A8 y3.length c9, .slice A17 y12.length c18]) (by kernel_rfl) (loadR_agg (cs := [.string a0.f0, .string a0.f1, .int .i64 a0.f2, .slice A8 y3.length c9, .slice A17 y12.length c18]) (by kernel_rfl) (RunAt.take hf26 5)) ResOk.nil) (Imm.trans (Imm.trans hI7 hI16) hJ22) ⟨A8, c9, A17, c18, hf25, hf24, rfl, rfl⟩
theorem tocsinlaw26_mark_walkF {J0 : Imm} {a0 : S23} {A0_3 : Option Addr} {n0_3 : Nat} {A0_4 : Option Addr} {n0_4 : Nat} {I : Imm} {r : S23}  (hf0_3 : RepS (Kd.sl kS53) I A0_3 n0_3 a0.f3) (hf0_4 : RepS (Kd.sl kS53) I A0_4 n0_4 a0.f4) (hJ0 : J0 ≤ I) (hr : tocsinlaw26_mark a0 = some r) (L : Own) :
    CallsTo Tryd.prog 19 #[.agg #[.string a0.f0, .string a0.f1, .int .i64 a0.f2, .slice A0_3 a0.f3.length n0_3, .slice A0_4 a0.f4.length n0_4]] I L (fun v I' L' => ∃ A0_3 c0_3 A0_4 c0_4, RepS (Kd.fr J0 kS53 54) I' A0_3 c0_3 r.f3 ∧ FrRow 1 25 J0 I' A0_3 r.f3.length ∧ RepS (Kd.fr J0 kS53 54) I' A0_4 c0_4 r.f4 ∧ FrRow 1 25 J0 I' A0_4 r.f4.length ∧ v = .agg #[.string r.f0, .string r.f1, .int .i64 r.f2, .slice A0_3 r.f3.length c0_3, .slice A0_4 r.f4.length c0_4] ∧ L = L') := by
  unfold tocsinlaw26_mark at hr
  refine callsTo_body (N := 12) Tryd.func19 (by kernel_rfl) (by kernel_rfl) (by kernel_rfl) ?_
  refine gk_pick [0] (K' := [(0, .agg #[.string a0.f0, .string a0.f1, .int .i64 a0.f2, .slice A0_3 a0.f3.length n0_3, .slice A0_4 a0.f4.length n0_4])]) (by kernel_rfl) ?_
  refine gk_seq (by kernel_rfl) ?_
  refine gk_region (by kernel_rfl) ?_
  refine gl_box (T' := 24) (x := (.tmp 0)) (v := .agg #[.string a0.f0, .string a0.f1, .int .i64 a0.f2, .slice A0_3 a0.f3.length n0_3, .slice A0_4 a0.f4.length n0_4]) (cs := #[.string a0.f0, .string a0.f1, .int .i64 a0.f2, .slice A0_3 a0.f3.length n0_3, .slice A0_4 a0.f4.length n0_4]) (by kernel_rfl) (by kernel_rfl) (by kernel_rfl) (by kernel_rfl) (fun g1 => ?_)
  refine gl_alloc (T' := 24) (cs := #[.string (⟨#[]⟩ : ByteArray), .string (⟨#[]⟩ : ByteArray), .int .i64 0, .slice none 0 0, .slice none 0 0]) (by kernel_rfl) (by kernel_rfl) (by kernel_rfl) (fun g2 => ?_)
  refine gl_atE (by kernel_rfl) ?_
  refine ge_seq ?_
  refine gk_seq (by kernel_rfl) ?_
  refine gk_region (by kernel_rfl) ?_
  refine gl_pure 1 [1, 2, 3] (K' := [(1, .pointer (some ⟨g1, 0, none⟩)), (2, .pointer (some ⟨g2, 0, none⟩)), (3, .pointer (some ⟨g1, 3, none⟩))]) (by kernel_rfl) ?_
  refine gl_loadB (T' := 22) (xp := (.tmp 3)) (v := .slice A0_3 a0.f3.length n0_3) (g := g1) (off := 3) (cs := #[.string a0.f0, .string a0.f1, .int .i64 a0.f2, .slice A0_3 a0.f3.length n0_3, .slice A0_4 a0.f4.length n0_4]) (e := 24) (fz := (0, 0)) (by kernel_rfl) (by kernel_rfl) (by kernel_rfl) (List.mem_cons_of_mem _ List.mem_cons_self) (by kernel_rfl) ?_
  obtain ⟨y3, hx4, hr⟩ := bind_some hr
  refine gl_call (by kernel_rfl) (tocsinlaw26_lent_walkF (hJ0 := hJ0) (r := y3) hf0_3 hx4 _) ?_
  rintro v I5 L6 hI7 ⟨A8, c9, C10, hO11, rfl, rfl⟩
  refine gl_pure 1 [1, 2, 5, 6] (K' := [(1, .pointer (some ⟨g1, 0, none⟩)), (2, .pointer (some ⟨g2, 0, none⟩)), (5, .slice A8 y3.length c9), (6, .pointer (some ⟨g1, 3, none⟩))]) (by kernel_rfl) ?_
  refine gl_storeB (T' := 22) (xp := (.tmp 6)) (xv := (.tmp 5)) (v := .slice A8 y3.length c9) (g := g1) (off := 3) (cs := #[.string a0.f0, .string a0.f1, .int .i64 a0.f2, .slice A0_3 a0.f3.length n0_3, .slice A0_4 a0.f4.length n0_4]) (cs' := #[.string a0.f0, .string a0.f1, .int .i64 a0.f2, .slice A8 y3.length c9, .slice A0_4 a0.f4.length n0_4]) (by kernel_rfl) (by kernel_rfl) (by kernel_rfl) (by kernel_rfl) (by kernel_rfl) (Upd.app _ (Upd.one _ (Upd.set _ _ _ _))) ?_ (by kernel_rfl)
  refine gl_atE (by kernel_rfl) ?_
  refine ge_seq ?_
  refine gk_seq (by kernel_rfl) ?_
  refine gk_region (by kernel_rfl) ?_
  refine gl_pure 1 [1, 2, 7] (K' := [(1, .pointer (some ⟨g1, 0, none⟩)), (2, .pointer (some ⟨g2, 0, none⟩)), (7, .pointer (some ⟨g1, 4, none⟩))]) (by kernel_rfl) ?_
  refine gl_loadB (T' := 22) (xp := (.tmp 7)) (v := .slice A0_4 a0.f4.length n0_4) (g := g1) (off := 4) (cs := #[.string a0.f0, .string a0.f1, .int .i64 a0.f2, .slice A8 y3.length c9, .slice A0_4 a0.f4.length n0_4]) (e := 24) (fz := (0, 0)) (by kernel_rfl) (by kernel_rfl) (by kernel_rfl) (List.mem_append_right _ (List.mem_cons_of_mem _ List.mem_cons_self)) (by kernel_rfl) ?_
  obtain ⟨y12, hx13, hr⟩ := bind_some hr
  refine gl_call (by kernel_rfl) (tocsinlaw26_lent_walkF (hJ0 := (Imm.trans hJ0 hI7)) (r := y12) (hf0_4.mono hI7) hx13 _) ?_
  rintro v I14 L15 hI16 ⟨A17, c18, C19, hO20, rfl, rfl⟩
  refine gl_pure 1 [1, 2, 9, 10] (K' := [(1, .pointer (some ⟨g1, 0, none⟩)), (2, .pointer (some ⟨g2, 0, none⟩)), (9, .slice A17 y12.length c18), (10, .pointer (some ⟨g1, 4, none⟩))]) (by kernel_rfl) ?_
  refine gl_storeB (T' := 22) (xp := (.tmp 10)) (xv := (.tmp 9)) (v := .slice A17 y12.length c18) (g := g1) (off := 4) (cs := #[.string a0.f0, .string a0.f1, .int .i64 a0.f2, .slice A8 y3.length c9, .slice A0_4 a0.f4.length n0_4]) (cs' := #[.string a0.f0, .string a0.f1, .int .i64 a0.f2, .slice A8 y3.length c9, .slice A17 y12.length c18]) (by kernel_rfl) (by kernel_rfl) (by kernel_rfl) (by kernel_rfl) (by kernel_rfl) (Upd.app _ (Upd.app _ (Upd.one _ (Upd.set _ _ _ _)))) ?_ (by kernel_rfl)
  refine gl_atE (by kernel_rfl) ?_
  refine ge_seq ?_
  refine gk_seq (by kernel_rfl) ?_
  refine gk_region (by kernel_rfl) ?_
  refine gl_loadB (T' := 24) (xp := (.tmp 1)) (v := .agg #[.string a0.f0, .string a0.f1, .int .i64 a0.f2, .slice A8 y3.length c9, .slice A17 y12.length c18]) (g := g1) (off := 0) (cs := #[.string a0.f0, .string a0.f1, .int .i64 a0.f2, .slice A8 y3.length c9, .slice A17 y12.length c18]) (e := 24) (fz := (0, 0)) (by kernel_rfl) (by kernel_rfl) (by kernel_rfl) (List.mem_append_right _ (List.mem_append_right _ (List.mem_cons_of_mem _ List.mem_cons_self))) (by kernel_rfl) ?_
  refine gl_storeB (T' := 24) (xp := (.tmp 2)) (xv := (.tmp 11)) (v := .agg #[.string a0.f0, .string a0.f1, .int .i64 a0.f2, .slice A8 y3.length c9, .slice A17 y12.length c18]) (g := g2) (off := 0) (cs := #[.string (⟨#[]⟩ : ByteArray), .string (⟨#[]⟩ : ByteArray), .int .i64 0, .slice none 0 0, .slice none 0 0]) (cs' := #[.string a0.f0, .string a0.f1, .int .i64 a0.f2, .slice A8 y3.length c9, .slice A17 y12.length c18]) (by kernel_rfl) (by kernel_rfl) (by kernel_rfl) (by kernel_rfl) (by kernel_rfl) (Upd.app _ (Upd.app _ (Upd.set _ _ _ _))) ?_ (by kernel_rfl)
  refine gl_atE (by kernel_rfl) ?_
  refine ge_seq ?_
  refine gk_restF (Tk.step (Upd.rmC _ _) (Tk.step (Upd.rmC _ _) (Tk.step (Upd.rm1 _ _) (Tk.nil _)))) (fun J21 hJ22 hC23 hNN => ?_)
  have hf24 := (OwnS.rest hO20 hJ22 hC23.left)
  have hf25 := (OwnS.rest (hO11.mono hI16) hJ22 hC23.right.left)
  have hf26 := hC23.right.right.left.blk
  refine gk_reord (D := L) (Reord.skip (Reord.refl _)) ?_
  refine gk_ret (by kernel_rfl) ?_
  obtain rfl := some_inj hr
  exact ge_result trivial (ResOk.cell (v := .agg #[.string a0.f0, .string a0.f1, .int .i64 a0.f2, .slice A8 y3.length c9, .slice A17 y12.length c18]) (by kernel_rfl) (loadR_agg (cs := [.string a0.f0, .string a0.f1, .int .i64 a0.f2, .slice A8 y3.length c9, .slice A17 y12.length c18]) (by kernel_rfl) (RunAt.take hf26 5)) ResOk.nil) (Imm.trans (Imm.trans hI7 hI16) hJ22) ⟨A8, c9, A17, c18, hf25, (fr_outer (J := J21) (hO11.mono hI16) hC23.right.left (fun p hp => hNN J0 (Imm.trans hJ0 (Imm.trans hI7 hI16)) p (List.mem_append_right _ (List.mem_append_left _ hp)))), hf24, (fr_outer (J := J21) hO20 hC23.left (fun p hp => hNN J0 (Imm.trans hJ0 (Imm.trans hI7 hI16)) p (List.mem_append_left _ hp))), rfl, rfl⟩
theorem tocsinlaw26_mark_walkX {a0 : S23} {A0_3 : Option Addr} {n0_3 : Nat} {A0_4 : Option Addr} {n0_4 : Nat} {I : Imm} {r : S23}  (hf0_3 : RepS (Kd.sl kS53) I A0_3 n0_3 a0.f3) (hf0_4 : RepS (Kd.sl kS53) I A0_4 n0_4 a0.f4) (hr : tocsinlaw26_mark a0 = some r) (L : Own) :
    CallsTo Tryd.prog 19 #[.agg #[.string a0.f0, .string a0.f1, .int .i64 a0.f2, .slice A0_3 a0.f3.length n0_3, .slice A0_4 a0.f4.length n0_4]] I L (fun v I' L' => ∃ A0_3 c0_3 A0_4 c0_4 X, RepS (Kd.sl kS53) (I'.adds X) A0_3 c0_3 r.f3 ∧ RepS (Kd.sl kS53) (I'.adds X) A0_4 c0_4 r.f4 ∧ Sp2 X A0_3 r.f3.length ∧ Sp2 X A0_4 r.f4.length ∧ v = .agg #[.string r.f0, .string r.f1, .int .i64 r.f2, .slice A0_3 r.f3.length c0_3, .slice A0_4 r.f4.length c0_4] ∧ X ++ L = L') := fun W hW => (tocsinlaw26_mark_walkF (J0 := I) hf0_3 hf0_4 (Imm.refl _) hr L W hW).mono fun e W' ⟨v, I', L', he, hI, hh, A3, c3, A4, c4, h3, q3, h4, q4, hv, hl⟩ => by
  subst hl
  obtain ⟨X, x1, x2, x3, x4, x5⟩ := fr_chunk (fun _ _ _ _ h => by obtain rfl := kS53_open h; exact kS53_mk) rfl hh hI h3 q3 h4 q4
  exact ⟨v, I, X ++ L, he, Imm.refl I, x1, A3, c3, A4, c4, X, x2, x3, x4, x5, hv, rfl⟩
/-! 57 slices_Clone_f57 ('bor',) -/
noncomputable def slices_Clone_f57 (a0 : List S53) : Option (List S53) :=
  Option.bind (app ([] : List S53) a0) fun (zs3 : List S53) =>
  some zs3
theorem slices_Clone_f57_walk {a0 : List S53} {X0 : Own} {A0_0 : Option Addr} {n0_0 : Nat} {I : Imm} {r : (List S53)}  (hf0_0 : RepS kS53 (I.adds X0) A0_0 n0_0 a0) (hr : slices_Clone_f57 a0 = some r) (L : Own) :
    CallsTo Tryd.prog 57 #[.slice A0_0 a0.length n0_0] I (X0 ++ L) (fun v I' L' => ∃ A0 c0 C0, OwnS kS53 54 I' A0 c0 r C0 ∧ v = .slice A0 r.length c0 ∧ C0 ++ (X0 ++ L) = L') := by
  unfold slices_Clone_f57 at hr
  refine callsTo_body (N := 8) Tryd.func57 (by kernel_rfl) (by kernel_rfl) (by kernel_rfl) ?_
  refine gk_pick [0] (K' := [(0, .slice A0_0 a0.length n0_0)]) (by kernel_rfl) ?_
  refine gk_seq (by kernel_rfl) ?_
  refine gk_region (by kernel_rfl) ?_
  refine gl_pure 1 [0] (K' := [(0, .slice A0_0 a0.length n0_0)]) (by kernel_rfl) ?_
  refine gl_atE (by kernel_rfl) ?_
  refine ge_seq ?_
  refine gk_seq (by kernel_rfl) ?_
  refine gk_seq (by kernel_rfl) ?_
  refine gk_region (by kernel_rfl) ?_
  refine gl_pure 1 [0, 3] (K' := [(0, .slice A0_0 a0.length n0_0), (3, .slice A0_0 a0.length n0_0)]) (by kernel_rfl) ?_
  refine gl_eqNil (A := A0_0) (len := a0.length) (c := n0_0) (a := 0) (b := 0) (t := 25) (t' := 25) (x := (.tmp 3)) (y := (.const (.slice none 0 0))) (by kernel_rfl) (by kernel_rfl) (by kernel_rfl) (by kernel_rfl) (by kernel_rfl) ?_
  refine gl_atE (by kernel_rfl) ?_
  refine ge_seq ?_
  refine gk_cond (b := A0_0.isNone) (by kernel_rfl) (by kernel_rfl) (fun hc1 => ?_) (fun hc1 => ?_)
  · have hr := clone_nil hr (RepS.isNil hf0_0 hc1)
    refine gk_seq (by kernel_rfl) ?_
    refine gk_region (by kernel_rfl) ?_
    refine gl_pure 1 [2] (K' := [(2, .slice none 0 0)]) (by kernel_rfl) ?_
    refine gl_atE (by kernel_rfl) ?_
    refine ge_seq ?_
    refine gk_ret (by kernel_rfl) ?_
    refine ge_seq_ret ?_
    obtain rfl := some_inj hr
    exact ge_result trivial (ResOk.tmp (by kernel_rfl) ResOk.nil) (Imm.refl _) ⟨none, 0, [], OwnS.nil _ _ _ _, rfl, rfl⟩
  · refine gk_skip (by kernel_rfl) ?_
    refine ge_seq ?_
    refine gk_seq (by kernel_rfl) ?_
    refine gk_region (by kernel_rfl) ?_
    refine gl_buildSlice0 (T' := 25) (e := 54) (n := 2) (by kernel_rfl) (by kernel_rfl) (by kernel_rfl) (fun g2 => ?_)
    refine gl_reord (D := [(g2, .cells #[] 54)] ++ (X0 ++ L)) (Reord.refl _) ?_
    refine gl_pure 1 [5, 6] (K' := [(5, .slice (some ⟨g2, 0, none⟩) ([] : List S53).length 0), (6, .slice A0_0 a0.length n0_0)]) (by kernel_rfl) ?_
    obtain ⟨zs3, hz4, hr⟩ := bind_some hr
    refine gl_append (xv := .slice A0_0 a0.length n0_0) (d := kS53) (t := 25) (tx := 25) (e := 54) (s := (.tmp 5)) (x := (.tmp 6)) (xs := ([] : List S53)) (fun X => X ++ (X0 ++ L)) hz4 (by kernel_rfl) (by kernel_rfl) (by kernel_rfl) (by kernel_rfl) (by kernel_rfl) (by kernel_rfl) (fun X => (Upd.head _ X _)) (OwnS.empty _ _ _ _) (SrcOk.slice (c := n0_0) (e := 54) (n := 2) (RepS.rdB (fun _ _ _ _ h => by obtain rfl := kS53_open h; exact kS53_mk) hf0_0 (Imm.refl _) (fun q hq => (List.mem_append_right _ (List.mem_append_left _ hq)))) (by kernel_rfl)) (fun A5 n6 C7 hO8 => ?_)
    refine gl_pure 1 [2] (K' := [(2, .slice A5 zs3.length n6)]) (by kernel_rfl) ?_
    refine gl_atE (by kernel_rfl) ?_
    refine ge_seq ?_
    refine gk_ret (by kernel_rfl) ?_
    obtain rfl := some_inj hr
    exact ge_result trivial (ResOk.tmp (by kernel_rfl) ResOk.nil) (Imm.refl _) ⟨A5, n6, C7, hO8, rfl, rfl⟩
/-! 36 nflog_sets_f36 ('bor',) -/
noncomputable def nflog_sets_f36_l28 (a0 : List (List S53)) : ((List (List S53)) × Int) → Option (((List (List S53)) × Int) ⊕ ((List (List S53)))) := fun s11 =>
  bif (decide (s11.2 < (a0.length : Int))) then
  (Option.bind (ix a0 s11.2) fun (x31 : List S53) =>
    Option.bind (slices_Clone_f57 x31) fun (y42 : (List S53)) =>
    Option.bind (app s11.1 [y42]) fun (zs59 : List (List S53)) =>
    some (Sum.inl (zs59, (IntKind.wrap .i64 (s11.2 + 1)))))
  else
  (some (Sum.inr s11.1))
noncomputable def nflog_sets_f36 (a0 : List (List S53)) : Option (List (List S53)) :=
  Option.bind (loopO (nflog_sets_f36_l28 a0) ([], 0)) fun (r9 : (List (List S53))) =>
  some r9
theorem nflog_sets_f36_walk {a0 : List (List S53)} {X0 : Own} {A0_0 : Option Addr} {n0_0 : Nat} {I : Imm} {r : (List (List S53))}  (hf0_0 : RepS (Kd.sl kS53) (I.adds X0) A0_0 n0_0 a0) (hr : nflog_sets_f36 a0 = some r) (L : Own) :
    CallsTo Tryd.prog 36 #[.slice A0_0 a0.length n0_0] I (X0 ++ L) (fun v I' L' => ∃ A0 c0 C0, OwnS (Kd.sl kS53) 25 I' A0 c0 r C0 ∧ v = .slice A0 r.length c0 ∧ C0 ++ (X0 ++ L) = L') := by
  unfold nflog_sets_f36 at hr
  refine callsTo_body (N := 19) Tryd.func36 (by kernel_rfl) (by kernel_rfl) (by kernel_rfl) ?_
  refine gk_pick [0] (K' := [(0, .slice A0_0 a0.length n0_0)]) (by kernel_rfl) ?_
  refine gk_seq (by kernel_rfl) ?_
  refine gk_region (by kernel_rfl) ?_
  refine gl_pure 1 [0] (K' := [(0, .slice A0_0 a0.length n0_0)]) (by kernel_rfl) ?_
  refine gl_atE (by kernel_rfl) ?_
  refine ge_seq ?_
  refine gk_seq (by kernel_rfl) ?_
  refine gk_region (by kernel_rfl) ?_
  refine gl_pure 1 [0, 3] (K' := [(0, .slice A0_0 a0.length n0_0), (3, .slice none 0 0)]) (by kernel_rfl) ?_
  refine gl_atE (by kernel_rfl) ?_
  refine ge_seq ?_
  refine gk_seq (by kernel_rfl) ?_
  refine gk_seq (by kernel_rfl) ?_
  refine gk_region (by kernel_rfl) ?_
  refine gl_pure 3 [3, 6, 7, 8] (K' := [(3, .slice none 0 0), (6, .slice A0_0 a0.length n0_0), (7, .int .i64 (a0.length : Int)), (8, .int .i64 0)]) (by kernel_rfl) ?_
  refine gl_atE (by kernel_rfl) ?_
  refine ge_seq ?_
  obtain ⟨r9, hl10, hr⟩ := bind_some hr
  refine gk_join (fun t I' L' => ∃ A22 n23 C24, OwnS (Kd.sl kS53) 25 I' A22 n23 r9 C24 ∧ I ≤ I' ∧ C24 ++ (X0 ++ L) = L' ∧ Knows 19 [(3, .slice A22 r9.length n23)] t) ?_ ?_
  · refine gk_block (by kernel_rfl) ?_
    refine gk_pick [3, 6, 7, 8] (K' := [(3, .slice none 0 0), (6, .slice A0_0 a0.length n0_0), (7, .int .i64 (a0.length : Int)), (8, .int .i64 0)]) (by kernel_rfl) ?_
    intro t hK
    refine gc_loop (nflog_sets_f36_l28 a0) (fun s11 t I' L' => ∃ A15 n16 C17, OwnS (Kd.sl kS53) 25 I' A15 n16 s11.1 C17 ∧ I ≤ I' ∧ C17 ++ (X0 ++ L) = L' ∧ Knows 19 [(3, .slice A15 s11.1.length n16), (6, .slice A0_0 a0.length n0_0), (7, .int .i64 (a0.length : Int)), (8, .int .i64 s11.2)] t) (by kernel_rfl) ?_ hl10 ⟨none, 0, [], OwnS.nil _ _ _ _, (Imm.refl _), rfl, hK⟩
    rintro s11 o12 t I20 L' hb13 ⟨A15, n16, C17, hO18, hI14, rfl, hK19⟩
    unfold nflog_sets_f36_l28 at hb13
    refine gk_at hK19 ?_
    refine gk_seq (by kernel_rfl) ?_
    refine gk_region (by kernel_rfl) ?_
    refine gl_pure 1 [3, 6, 7, 8, 9] (K' := [(3, .slice A15 s11.1.length n16), (6, .slice A0_0 a0.length n0_0), (7, .int .i64 (a0.length : Int)), (8, .int .i64 s11.2), (9, .bool (decide (s11.2 < (a0.length : Int))))]) (by kernel_rfl) ?_
    refine gl_atE (by kernel_rfl) ?_
    refine ge_seq ?_
    refine gk_seq (by kernel_rfl) ?_
    refine gk_cond (b := (decide (s11.2 < (a0.length : Int)))) (by kernel_rfl) (by kernel_rfl) (fun hc30 => ?_) (fun hc30 => ?_)
    · have hb13 := cond_t hc30 hb13
      refine gk_skip (by kernel_rfl) ?_
      refine ge_seq ?_
      refine gk_seq (by kernel_rfl) ?_
      refine gk_block (by kernel_rfl) ?_
      refine gk_seq (by kernel_rfl) ?_
      refine gk_region (by kernel_rfl) ?_
      obtain ⟨x31, hx32, hb13⟩ := bind_some hb13
      obtain ⟨p33, cs34, hR35, hA36, ha37⟩ := RepS.ixAt hx32 (hf0_0.mono (adds_mono hI14))
      have hi38 := ix_some hx32
      obtain ⟨A39, n40, rfl, hf41⟩ := sl_open hR35
      refine gl_indexAddrF (c := n0_0) (T' := 22) (e := 25) (xs := (.tmp 6)) (xi := (.tmp 8)) (kd := .i64) ha37 hi38.1 hi38.2.1 (by kernel_rfl) (by kernel_rfl) (by kernel_rfl) (by kernel_rfl) (by kernel_rfl) ?_
      refine gl_loadO (T' := 25) (xp := (.tmp 10)) (p := p33) (c := .slice A39 x31.length n40) (n := 1) (by kernel_rfl) (by kernel_rfl) (by kernel_rfl) (by kernel_rfl) ((RunAt.bor hA36) _ _ (Imm.refl _) (fun q hq => (List.mem_append_right _ (List.mem_append_left _ hq)))) ?_
      refine gl_pure 1 [3, 5, 6, 7, 8] (K' := [(3, .slice A15 s11.1.length n16), (5, .slice A39 x31.length n40), (6, .slice A0_0 a0.length n0_0), (7, .int .i64 (a0.length : Int)), (8, .int .i64 s11.2)]) (by kernel_rfl) ?_
      refine gl_atE (by kernel_rfl) ?_
      refine ge_seq ?_
      refine gk_region (by kernel_rfl) ?_
      refine gl_pure 2 [6, 7, 8, 12, 13] (K' := [(6, .slice A0_0 a0.length n0_0), (7, .int .i64 (a0.length : Int)), (8, .int .i64 s11.2), (12, .slice A15 s11.1.length n16), (13, .slice A39 x31.length n40)]) (by kernel_rfl) ?_
      obtain ⟨y42, hx43, hb13⟩ := bind_some hb13
      refine gl_reord (D := X0 ++ (C17 ++ L)) (Reord.step (Upd.app _ (Upd.rmC _ _)) (Reord.step (Upd.rmC _ _) (Reord.refl _))) ?_
      refine gl_call (by kernel_rfl) (slices_Clone_f57_walk (r := y42) (X0 := X0) (a0 := x31) hf41 hx43 _) ?_
      rintro v I44 L45 hI46 ⟨A47, c48, C49, hO50, rfl, rfl⟩
      refine gl_rest (Tk.step (Upd.rmC _ _) (Tk.nil _)) (fun J51 hJ52 hC53 => ?_)
      have hf54 := (OwnS.rest hO50 hJ52 hC53.left)
      refine gl_buildSlice (T' := 22) (e := 25) (n := 1) (len := 1) (parts := #[(0, (.tmp 14))]) (l := [(0, .slice A47 y42.length c48)]) (cs := #[.slice A47 y42.length c48]) (by kernel_rfl) (by kernel_rfl) (by kernel_rfl) (by kernel_rfl) (by kernel_rfl) (fun g55 => ?_)
      have hO56 : OwnS (Kd.sl kS53) 25 J51 (some ⟨g55, 0, none⟩) 1 [y42] [(g55, .cells #[.slice A47 y42.length c48] 25)] := OwnS.lit (row_cons (l := [.slice A47 y42.length c48]) ⟨_, _, rfl, hf54⟩ (row_nil _ _)) rfl rfl rfl
      refine gl_reord (D := [(g55, .cells #[.slice A47 y42.length c48] 25)] ++ (X0 ++ (C17 ++ L))) (Reord.refl _) ?_
      obtain ⟨zs59, hz60, hb13⟩ := bind_some hb13
      refine gl_append (xv := .slice (some ⟨g55, 0, none⟩) [y42].length 1) (d := (Kd.sl kS53)) (t := 22) (tx := 22) (e := 25) (s := (.tmp 12)) (x := (.tmp 15)) (xs := s11.1) (fun X => [(g55, .cells #[.slice A47 y42.length c48] 25)] ++ (X0 ++ (X ++ L))) hz60 (by kernel_rfl) (by kernel_rfl) (by kernel_rfl) (by kernel_rfl) (by kernel_rfl) (by kernel_rfl) (fun X => (Upd.app _ (Upd.app _ (Upd.head _ X _)))) (hO18.mono (Imm.trans hI46 hJ52)) (SrcOk.slice (c := 1) (e := 25) (n := 1) (OwnS.rd hO56 (Upd.selfC _ _)) (by kernel_rfl)) (fun A61 n62 C63 hO64 => ?_)
      refine gl_pure 1 [3, 6, 7, 8] (K' := [(3, .slice A61 zs59.length n62), (6, .slice A0_0 a0.length n0_0), (7, .int .i64 (a0.length : Int)), (8, .int .i64 s11.2)]) (by kernel_rfl) ?_
      refine gl_atE (by kernel_rfl) ?_
      refine ge_block_normal ?_
      refine ge_seq ?_
      refine gk_region (by kernel_rfl) ?_
      refine gl_pure 2 [3, 6, 7, 8] (K' := [(3, .slice A61 zs59.length n62), (6, .slice A0_0 a0.length n0_0), (7, .int .i64 (a0.length : Int)), (8, .int .i64 (IntKind.wrap .i64 (s11.2 + 1)))]) (by kernel_rfl) ?_
      refine gl_reord (D := C63 ++ (X0 ++ L)) (Reord.step (Upd.app _ (Upd.app _ (Upd.rmC _ _))) (Reord.step (Upd.app _ (Upd.rmC _ _)) (Reord.skipC (Reord.refl _)))) ?_
      refine gl_atE (by kernel_rfl) ?_
      obtain rfl := some_inj hb13
      exact ge_round fun t ht => ⟨A61, n62, C63, hO64, (Imm.trans (Imm.trans hI14 hI46) hJ52), rfl, ht.pick (l := [3, 6, 7, 8]) (by kernel_rfl)⟩
    · have hb13 := cond_f hc30 hb13
      refine gk_exit (by kernel_rfl) ?_
      refine ge_seq_exit ?_
      obtain rfl := some_inj hb13
      refine ge_round_out (fun hrr => ?_) (by intro h; cases h)
      obtain rfl := hrr
      refine ge_block_hit (by kernel_rfl) ?_
      exact ge_mid fun t ht => ⟨A15, n16, C17, hO18, hI14, rfl, ht.pick (l := [3]) (by kernel_rfl)⟩
  · rintro t I27 L' ⟨A22, n23, C24, hO25, hI21, rfl, hK26⟩
    refine ge_at hK26 ?_
    refine ge_seq ?_
    refine gk_seq (by kernel_rfl) ?_
    refine gk_region (by kernel_rfl) ?_
    refine gl_pure 2 [2] (K' := [(2, .slice A22 r9.length n23)]) (by kernel_rfl) ?_
    refine gl_atE (by kernel_rfl) ?_
    refine ge_seq ?_
    refine gk_ret (by kernel_rfl) ?_
    obtain rfl := some_inj hr
    exact ge_result trivial (ResOk.tmp (by kernel_rfl) ResOk.nil) hI21 ⟨A22, n23, C24, hO25, rfl, rfl⟩
end Go.Proofs.YtjkkmbjkndageaaDoor
