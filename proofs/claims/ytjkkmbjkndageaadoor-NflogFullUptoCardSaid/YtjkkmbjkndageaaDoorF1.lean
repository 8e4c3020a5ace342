import Derived.Test.YtjkkmbjkndageaaDoorF1c
set_option linter.unusedVariables false
set_option linter.unusedSimpArgs false
set_option maxRecDepth 100000
namespace Go.Proofs.YtjkkmbjkndageaaDoor
open Go.GB
/-! 80 slices_IndexFunc_f80  -/
noncomputable def slices_IndexFunc_f80_l17 (a0 : List (List S53)) (a1 : (List S53) → Option Bool) : Int → Option ((Int) ⊕ ((Unit) ⊕ (Int))) := fun s7 =>
  bif (decide (s7 < (a0.length : Int))) then
  (Option.bind (ix a0 s7) fun (x20 : List S53) =>
    Option.bind (a1 x20) fun (y32 : Bool) =>
    bif y32 then
    (some (Sum.inr (Sum.inr s7)))
    else
    (some (Sum.inl (IntKind.wrap .i64 (s7 + 1)))))
  else
  (some (Sum.inr (Sum.inl ())))
noncomputable def slices_IndexFunc_f80 (a0 : List (List S53)) (a1 : (List S53) → Option Bool) : Option Int :=
  Option.bind (loopO (slices_IndexFunc_f80_l17 a0 a1) 0) fun (r5 : (Unit) ⊕ (Int)) =>
  match r5 with
  | Sum.inl r13 => some (-1)
  | Sum.inr v34 => some v34
theorem slices_IndexFunc_f80_walk {a0 : List (List S53)} {A0_0 : Option Addr} {n0_0 : Nat} {a1 : (List S53) → Option Bool} {fv1 : Value} {I : Imm} {r : Int}  (hf0_0 : RepS (Kd.sl kS53) I A0_0 n0_0 a0) (hf1 : Fn105 I fv1 a1) (hr : slices_IndexFunc_f80 a0 a1 = some r) (L : Own) :
    CallsTo Tryd.prog 80 #[.slice A0_0 a0.length n0_0, fv1] I L (fun v I' L' => v = .int .i64 r ∧ L = L') := by
  unfold slices_IndexFunc_f80 at hr
  refine callsTo_body (N := 19) Tryd.func80 (by kernel_rfl) (by kernel_rfl) (by kernel_rfl) ?_
  refine gk_pick [0, 1] (K' := [(0, .slice A0_0 a0.length n0_0), (1, fv1)]) (by kernel_rfl) ?_
  refine gk_seq (by kernel_rfl) ?_
  refine gk_region (by kernel_rfl) ?_
  refine gl_pure 1 [0, 1] (K' := [(0, .slice A0_0 a0.length n0_0), (1, fv1)]) (by kernel_rfl) ?_
  refine gl_atE (by kernel_rfl) ?_
  refine ge_seq ?_
  refine gk_seq (by kernel_rfl) ?_
  refine gk_seq (by kernel_rfl) ?_
  refine gk_region (by kernel_rfl) ?_
  refine gl_pure 3 [0, 1, 7, 8] (K' := [(0, .slice A0_0 a0.length n0_0), (1, fv1), (7, .int .i64 (a0.length : Int)), (8, .int .i64 0)]) (by kernel_rfl) ?_
  refine gl_atE (by kernel_rfl) ?_
  refine ge_seq ?_
  obtain ⟨r5, hl6, hr⟩ := bind_some hr
  refine gk_join (fun t I' L' => ∃ r13, r5 = Sum.inl r13 ∧ I ≤ I' ∧ L = L' ∧ Knows 19 [] t) ?_ ?_
  · refine gk_block (by kernel_rfl) ?_
    refine gk_pick [0, 1, 7, 8] (K' := [(0, .slice A0_0 a0.length n0_0), (1, fv1), (7, .int .i64 (a0.length : Int)), (8, .int .i64 0)]) (by kernel_rfl) ?_
    intro t hK
    refine gc_loop (slices_IndexFunc_f80_l17 a0 a1) (fun s7 t I' L' => I ≤ I' ∧ L = L' ∧ Knows 19 [(0, .slice A0_0 a0.length n0_0), (1, fv1), (7, .int .i64 (a0.length : Int)), (8, .int .i64 s7)] t) (by kernel_rfl) ?_ hl6 ⟨(Imm.refl _), rfl, hK⟩
    rintro s7 o8 t I12 L' hb9 ⟨hI10, rfl, hK11⟩
    unfold slices_IndexFunc_f80_l17 at hb9
    refine gk_at hK11 ?_
    refine gk_seq (by kernel_rfl) ?_
    refine gk_region (by kernel_rfl) ?_
    refine gl_pure 1 [0, 1, 7, 8, 9] (K' := [(0, .slice A0_0 a0.length n0_0), (1, fv1), (7, .int .i64 (a0.length : Int)), (8, .int .i64 s7), (9, .bool (decide (s7 < (a0.length : Int))))]) (by kernel_rfl) ?_
    refine gl_atE (by kernel_rfl) ?_
    refine ge_seq ?_
    refine gk_seq (by kernel_rfl) ?_
    refine gk_cond (b := (decide (s7 < (a0.length : Int)))) (by kernel_rfl) (by kernel_rfl) (fun hc19 => ?_) (fun hc19 => ?_)
    · have hb9 := cond_t hc19 hb9
      refine gk_skip (by kernel_rfl) ?_
      refine ge_seq ?_
      refine gk_seq (by kernel_rfl) ?_
      refine gk_block (by kernel_rfl) ?_
      refine gk_seq (by kernel_rfl) ?_
      refine gk_region (by kernel_rfl) ?_
      refine gl_pure 2 [0, 1, 5, 7, 8] (K' := [(0, .slice A0_0 a0.length n0_0), (1, fv1), (5, .int .i64 s7), (7, .int .i64 (a0.length : Int)), (8, .int .i64 s7)]) (by kernel_rfl) ?_
      refine gl_atE (by kernel_rfl) ?_
      refine ge_seq ?_
      refine gk_seq (by kernel_rfl) ?_
      refine gk_region (by kernel_rfl) ?_
      refine gl_pure 3 [0, 1, 5, 7, 8, 11, 12, 13] (K' := [(0, .slice A0_0 a0.length n0_0), (1, fv1), (5, .int .i64 s7), (7, .int .i64 (a0.length : Int)), (8, .int .i64 s7), (11, fv1), (12, .slice A0_0 a0.length n0_0), (13, .int .i64 s7)]) (by kernel_rfl) ?_
      obtain ⟨x20, hx21, hb9⟩ := bind_some hb9
      obtain ⟨p22, cs23, hR24, hA25, ha26⟩ := RepS.ixAt hx21 (hf0_0.mono hI10)
      have hi27 := ix_some hx21
      obtain ⟨A28, n29, rfl, hf30⟩ := sl_open hR24
      refine gl_indexAddrF (c := n0_0) (T' := 22) (e := 25) (xs := (.tmp 12)) (xi := (.tmp 13)) (kd := .i64) ha26 hi27.1 hi27.2.1 (by kernel_rfl) (by kernel_rfl) (by kernel_rfl) (by kernel_rfl) (by kernel_rfl) ?_
      refine gl_load (T' := 25) (xp := (.tmp 14)) (p := p22) (c := .slice A28 x20.length n29) (n := 1) (by kernel_rfl) (by kernel_rfl) (by kernel_rfl) (by kernel_rfl) hA25 ?_
      obtain ⟨y32, hx31, hb9⟩ := bind_some hb9
      refine gl_callvQ (by kernel_rfl) ((hf1.mono hI10).out _ (Imm.refl _) _ _ hx31 _ _ hf30 _) ?_
      refine gl_atE (by kernel_rfl) ?_
      refine ge_seq ?_
      refine gk_cond (b := y32) (by kernel_rfl) (by kernel_rfl) (fun hc33 => ?_) (fun hc33 => ?_)
      · have hb9 := cond_t hc33 hb9
        refine gk_seq (by kernel_rfl) ?_
        refine gk_region (by kernel_rfl) ?_
        refine gl_pure 2 [4] (K' := [(4, .int .i64 s7)]) (by kernel_rfl) ?_
        refine gl_atE (by kernel_rfl) ?_
        refine ge_seq ?_
        refine gk_ret (by kernel_rfl) ?_
        refine ge_block_ret ?_
        refine ge_seq_ret ?_
        obtain rfl := some_inj hb9
        refine ge_round_out (fun hrr => ?_) (by intro h; cases h)
        obtain rfl := hrr
        refine ge_block_ret ?_
        refine ge_seq_ret ?_
        refine ge_seq_ret ?_
        obtain rfl := some_inj hr
        exact ge_result trivial (ResOk.tmp (by kernel_rfl) ResOk.nil) hI10 ⟨rfl, rfl⟩
      · have hb9 := cond_f hc33 hb9
        refine gk_skip (by kernel_rfl) ?_
        refine ge_block_normal ?_
        refine ge_seq ?_
        refine gk_region (by kernel_rfl) ?_
        refine gl_pure 2 [0, 1, 7, 8] (K' := [(0, .slice A0_0 a0.length n0_0), (1, fv1), (7, .int .i64 (a0.length : Int)), (8, .int .i64 (IntKind.wrap .i64 (s7 + 1)))]) (by kernel_rfl) ?_
        refine gl_atE (by kernel_rfl) ?_
        obtain rfl := some_inj hb9
        exact ge_round fun t ht => ⟨hI10, rfl, ht.pick (l := [0, 1, 7, 8]) (by kernel_rfl)⟩
    · have hb9 := cond_f hc19 hb9
      refine gk_exit (by kernel_rfl) ?_
      refine ge_seq_exit ?_
      obtain rfl := some_inj hb9
      refine ge_round_out (fun hrr => ?_) (by intro h; cases h)
      obtain rfl := hrr
      refine ge_block_hit (by kernel_rfl) ?_
      exact ge_mid fun t ht => ⟨_, rfl, hI10, rfl, ht.pick (l := []) (by kernel_rfl)⟩
  · rintro t I16 L' ⟨r13, rfl, hI14, rfl, hK15⟩
    refine ge_at hK15 ?_
    refine ge_seq ?_
    refine gk_seq (by kernel_rfl) ?_
    refine gk_region (by kernel_rfl) ?_
    refine gl_pure 1 [4] (K' := [(4, .int .i64 (-1))]) (by kernel_rfl) ?_
    refine gl_atE (by kernel_rfl) ?_
    refine ge_seq ?_
    refine gk_ret (by kernel_rfl) ?_
    obtain rfl := some_inj hr
    exact ge_result trivial (ResOk.tmp (by kernel_rfl) ResOk.nil) hI14 ⟨rfl, rfl⟩
/-! 73 slices_ContainsFunc  -/
noncomputable def slices_ContainsFunc (a0 : List (List S53)) (a1 : (List S53) → Option Bool) : Option Bool :=
  Option.bind (slices_IndexFunc_f80 a0 a1) fun (y1 : Int) =>
  some (decide (y1 ≥ 0))
theorem slices_ContainsFunc_walk {a0 : List (List S53)} {A0_0 : Option Addr} {n0_0 : Nat} {a1 : (List S53) → Option Bool} {fv1 : Value} {I : Imm} {r : Bool}  (hf0_0 : RepS (Kd.sl kS53) I A0_0 n0_0 a0) (hf1 : Fn105 I fv1 a1) (hr : slices_ContainsFunc a0 a1 = some r) (L : Own) :
    CallsTo Tryd.prog 73 #[.slice A0_0 a0.length n0_0, fv1] I L (fun v I' L' => v = .bool r ∧ L = L') := by
  unfold slices_ContainsFunc at hr
  refine callsTo_body (N := 9) Tryd.func73 (by kernel_rfl) (by kernel_rfl) (by kernel_rfl) ?_
  refine gk_pick [0, 1] (K' := [(0, .slice A0_0 a0.length n0_0), (1, fv1)]) (by kernel_rfl) ?_
  refine gk_seq (by kernel_rfl) ?_
  refine gk_region (by kernel_rfl) ?_
  refine gl_pure 1 [0, 1] (K' := [(0, .slice A0_0 a0.length n0_0), (1, fv1)]) (by kernel_rfl) ?_
  refine gl_atE (by kernel_rfl) ?_
  refine ge_seq ?_
  refine gk_seq (by kernel_rfl) ?_
  refine gk_region (by kernel_rfl) ?_
  refine gl_pure 2 [5, 6] (K' := [(5, .slice A0_0 a0.length n0_0), (6, fv1)]) (by kernel_rfl) ?_
  obtain ⟨y1, hx2, hr⟩ := bind_some hr
  refine gl_callQ (by kernel_rfl) (slices_IndexFunc_f80_walk (r := y1) hf0_0 hf1 hx2 _) ?_
  refine gl_pure 2 [4] (K' := [(4, .bool (decide (y1 ≥ 0)))]) (by kernel_rfl) ?_
  refine gl_atE (by kernel_rfl) ?_
  refine ge_seq ?_
  refine gk_ret (by kernel_rfl) ?_
  obtain rfl := some_inj hr
  exact ge_result trivial (ResOk.tmp (by kernel_rfl) ResOk.nil) (Imm.refl _) ⟨rfl, rfl⟩
/-! 74 nflog_right_1  -/
noncomputable def nflog_right_1 (a0 : List S53) : Option Bool :=
  Option.bind (labels_Right a0) fun (y1 : Int × Int) =>
  some (y1.1 != 0)
theorem nflog_right_1_walk {a0 : List S53} {A0_0 : Option Addr} {n0_0 : Nat} {I : Imm} {r : Bool} (hG : Gl I)  (hf0_0 : RepS kS53 I A0_0 n0_0 a0) (hr : nflog_right_1 a0 = some r) (L : Own) :
    CallsTo Tryd.prog 74 #[.slice A0_0 a0.length n0_0] I L (fun v I' L' => v = .bool r ∧ L = L') := by
  unfold nflog_right_1 at hr
  refine callsTo_body (N := 12) Tryd.func74 (by kernel_rfl) (by kernel_rfl) (by kernel_rfl) ?_
  refine gk_pick [0] (K' := [(0, .slice A0_0 a0.length n0_0)]) (by kernel_rfl) ?_
  refine gk_seq (by kernel_rfl) ?_
  refine gk_region (by kernel_rfl) ?_
  refine gl_pure 1 [0] (K' := [(0, .slice A0_0 a0.length n0_0)]) (by kernel_rfl) ?_
  refine gl_atE (by kernel_rfl) ?_
  refine ge_seq ?_
  refine gk_seq (by kernel_rfl) ?_
  refine gk_region (by kernel_rfl) ?_
  refine gl_pure 1 [6] (K' := [(6, .slice A0_0 a0.length n0_0)]) (by kernel_rfl) ?_
  obtain ⟨y1, hx2, hr⟩ := bind_some hr
  refine gl_callQ (by kernel_rfl) (labels_Right_walk (r := y1) hG hf0_0 hx2 _) ?_
  refine gl_pure 5 [3] (K' := [(3, .int .i64 y1.1)]) (by kernel_rfl) ?_
  refine gl_atE (by kernel_rfl) ?_
  refine ge_seq ?_
  refine gk_seq (by kernel_rfl) ?_
  refine gk_region (by kernel_rfl) ?_
  refine gl_pure 3 [2] (K' := [(2, .bool (y1.1 != 0))]) (by kernel_rfl) ?_
  refine gl_atE (by kernel_rfl) ?_
  refine ge_seq ?_
  refine gk_ret (by kernel_rfl) ?_
  obtain rfl := some_inj hr
  exact ge_result trivial (ResOk.tmp (by kernel_rfl) ResOk.nil) (Imm.refl _) ⟨rfl, rfl⟩
theorem nflog_right_1_impl105  {I : Imm} (hG : Gl I)  : Fn105 I (.func (.func 74) #[] #[]) nflog_right_1 := ⟨fun I' hI x0 r hr A0_0 c0_0 h0_0 L => ⟨74, #[], #[], rfl, ⟨_, Tryd.func74, by kernel_rfl, by kernel_rfl⟩, by
  simp only [List.append_toArray, List.nil_append, List.append_nil, Array.append_empty, Array.empty_append, List.push_append_toArray, List.cons_append]
  exact nflog_right_1_walk (hG.mono hI) h0_0  hr L⟩⟩
/-! 61 nflog_right  -/
noncomputable def nflog_right (a0 : List (List S53)) : Option Bool :=
  Option.bind (slices_ContainsFunc a0 nflog_right_1) fun (y1 : Bool) =>
  some (!y1)
theorem nflog_right_walk {a0 : List (List S53)} {A0_0 : Option Addr} {n0_0 : Nat} {I : Imm} {r : Bool} (hG : Gl I)  (hf0_0 : RepS (Kd.sl kS53) I A0_0 n0_0 a0) (hr : nflog_right a0 = some r) (L : Own) :
    CallsTo Tryd.prog 61 #[.slice A0_0 a0.length n0_0] I L (fun v I' L' => v = .bool r ∧ L = L') := by
  unfold nflog_right at hr
  refine callsTo_body (N := 6) Tryd.func61 (by kernel_rfl) (by kernel_rfl) (by kernel_rfl) ?_
  refine gk_pick [0] (K' := [(0, .slice A0_0 a0.length n0_0)]) (by kernel_rfl) ?_
  refine gk_seq (by kernel_rfl) ?_
  refine gk_region (by kernel_rfl) ?_
  refine gl_pure 1 [0] (K' := [(0, .slice A0_0 a0.length n0_0)]) (by kernel_rfl) ?_
  refine gl_atE (by kernel_rfl) ?_
  refine ge_seq ?_
  refine gk_seq (by kernel_rfl) ?_
  refine gk_region (by kernel_rfl) ?_
  refine gl_pure 1 [3] (K' := [(3, .slice A0_0 a0.length n0_0)]) (by kernel_rfl) ?_
  obtain ⟨y1, hx2, hr⟩ := bind_some hr
  refine gl_callQ (by kernel_rfl) (slices_ContainsFunc_walk (r := y1) hf0_0 (nflog_right_1_impl105 hG) hx2 _) ?_
  refine gl_pure 2 [2] (K' := [(2, .bool (!y1))]) (by kernel_rfl) ?_
  refine gl_atE (by kernel_rfl) ?_
  refine ge_seq ?_
  refine gk_ret (by kernel_rfl) ?_
  obtain rfl := some_inj hr
  exact ge_result trivial (ResOk.tmp (by kernel_rfl) ResOk.nil) (Imm.refl _) ⟨rfl, rfl⟩
/-! 75 nflog_Within_1 ('imm', ('ptrR', 25)) -/
noncomputable def nflog_Within_1 (a0 : List S53) (a1 : List S53) : Option Bool :=
  Option.bind (labels_Compare a1 a0) fun (y1 : Int) =>
  some (y1 == 0)
theorem nflog_Within_1_walk {a0 : List S53} {A0_0 : Option Addr} {n0_0 : Nat} {a1 : List S53} {p1 : Addr} {A1_0 : Option Addr} {n1_0 : Nat} {I : Imm} {r : Bool}  (hf0_0 : RepS kS53 I A0_0 n0_0 a0) (hp1 : RunAt I p1 [.slice A1_0 a1.length n1_0]) (hf1_0 : RepS kS53 I A1_0 n1_0 a1) (hr : nflog_Within_1 a0 a1 = some r) (L : Own) :
    CallsTo Tryd.prog 75 #[.slice A0_0 a0.length n0_0, .pointer (some p1)] I L (fun v I' L' => v = .bool r ∧ L = L') := by
  unfold nflog_Within_1 at hr
  refine callsTo_body (N := 8) Tryd.func75 (by kernel_rfl) (by kernel_rfl) (by kernel_rfl) ?_
  refine gk_pick [0, 1] (K' := [(0, .slice A0_0 a0.length n0_0), (1, .pointer (some p1))]) (by kernel_rfl) ?_
  refine gk_seq (by kernel_rfl) ?_
  refine gk_region (by kernel_rfl) ?_
  refine gl_pure 1 [0, 1] (K' := [(0, .slice A0_0 a0.length n0_0), (1, .pointer (some p1))]) (by kernel_rfl) ?_
  refine gl_atE (by kernel_rfl) ?_
  refine ge_seq ?_
  refine gk_seq (by kernel_rfl) ?_
  refine gk_region (by kernel_rfl) ?_
  refine gl_load (T' := 25) (xp := (.tmp 1)) (p := p1) (c := .slice A1_0 a1.length n1_0) (n := 1) (by kernel_rfl) (by kernel_rfl) (by kernel_rfl) (by kernel_rfl) hp1 ?_
  refine gl_pure 1 [4, 5] (K' := [(4, .slice A1_0 a1.length n1_0), (5, .slice A0_0 a0.length n0_0)]) (by kernel_rfl) ?_
  obtain ⟨y1, hx2, hr⟩ := bind_some hr
  refine gl_callQ (by kernel_rfl) (labels_Compare_walk (r := y1) hf1_0 hf0_0 hx2 _) ?_
  refine gl_pure 2 [3] (K' := [(3, .bool (y1 == 0))]) (by kernel_rfl) ?_
  refine gl_atE (by kernel_rfl) ?_
  refine ge_seq ?_
  refine gk_ret (by kernel_rfl) ?_
  obtain rfl := some_inj hr
  exact ge_result trivial (ResOk.tmp (by kernel_rfl) ResOk.nil) (Imm.refl _) ⟨rfl, rfl⟩
theorem nflog_Within_1_impl105 {a1 : List S53} {p1 : Addr} {A1_0 : Option Addr} {n1_0 : Nat} {I : Imm} (hp1 : RunAt I p1 [.slice A1_0 a1.length n1_0]) (hf1_0 : RepS kS53 I A1_0 n1_0 a1) : Fn105 I (.func (.func 75) #[] #[.pointer (some p1)]) (fun x0 => nflog_Within_1 x0 a1) := ⟨fun I' hI x0 r hr A0_0 c0_0 h0_0 L => ⟨75, #[], #[.pointer (some p1)], rfl, ⟨_, Tryd.func75, by kernel_rfl, by kernel_rfl⟩, by
  simp only [List.append_toArray, List.nil_append, List.append_nil, Array.append_empty, Array.empty_append, List.push_append_toArray, List.cons_append]
  exact nflog_Within_1_walk  h0_0 (hp1.mono hI) (hf1_0.mono hI) hr L⟩⟩
/-! 62 nflog_Within  -/
noncomputable def nflog_Within_l17 (a0 : List (List S53)) (a1 : List (List S53)) : Int → Option ((Int) ⊕ ((Unit) ⊕ (Bool))) := fun s7 =>
  bif (decide (s7 < (a0.length : Int))) then
  (Option.bind (ix a0 s7) fun (x20 : List S53) =>
    Option.bind (slices_ContainsFunc a1 (fun x0 => nflog_Within_1 x0 x20)) fun (y32 : Bool) =>
    bif (!y32) then
    (some (Sum.inr (Sum.inr false)))
    else
    (some (Sum.inl (IntKind.wrap .i64 (s7 + 1)))))
  else
  (some (Sum.inr (Sum.inl ())))
noncomputable def nflog_Within (a0 : List (List S53)) (a1 : List (List S53)) : Option Bool :=
  Option.bind (loopO (nflog_Within_l17 a0 a1) 0) fun (r5 : (Unit) ⊕ (Bool)) =>
  match r5 with
  | Sum.inl r13 => some true
  | Sum.inr v35 => some v35
theorem nflog_Within_walk {a0 : List (List S53)} {A0_0 : Option Addr} {n0_0 : Nat} {a1 : List (List S53)} {A1_0 : Option Addr} {n1_0 : Nat} {I : Imm} {r : Bool}  (hf0_0 : RepS (Kd.sl kS53) I A0_0 n0_0 a0)  (hf1_0 : RepS (Kd.sl kS53) I A1_0 n1_0 a1) (hr : nflog_Within a0 a1 = some r) (L : Own) :
    CallsTo Tryd.prog 62 #[.slice A0_0 a0.length n0_0, .slice A1_0 a1.length n1_0] I L (fun v I' L' => v = .bool r ∧ L = L') := by
  unfold nflog_Within at hr
  refine callsTo_body (N := 18) Tryd.func62 (by kernel_rfl) (by kernel_rfl) (by kernel_rfl) ?_
  refine gk_pick [0, 1] (K' := [(0, .slice A0_0 a0.length n0_0), (1, .slice A1_0 a1.length n1_0)]) (by kernel_rfl) ?_
  refine gk_seq (by kernel_rfl) ?_
  refine gk_region (by kernel_rfl) ?_
  refine gl_pure 1 [0, 1] (K' := [(0, .slice A0_0 a0.length n0_0), (1, .slice A1_0 a1.length n1_0)]) (by kernel_rfl) ?_
  refine gl_atE (by kernel_rfl) ?_
  refine ge_seq ?_
  refine gk_seq (by kernel_rfl) ?_
  refine gk_seq (by kernel_rfl) ?_
  refine gk_region (by kernel_rfl) ?_
  refine gl_pure 3 [1, 7, 8, 9] (K' := [(1, .slice A1_0 a1.length n1_0), (7, .slice A0_0 a0.length n0_0), (8, .int .i64 (a0.length : Int)), (9, .int .i64 0)]) (by kernel_rfl) ?_
  refine gl_atE (by kernel_rfl) ?_
  refine ge_seq ?_
  obtain ⟨r5, hl6, hr⟩ := bind_some hr
  refine gk_join (fun t I' L' => ∃ r13, r5 = Sum.inl r13 ∧ I ≤ I' ∧ L = L' ∧ Knows 18 [] t) ?_ ?_
  · refine gk_block (by kernel_rfl) ?_
    refine gk_pick [1, 7, 8, 9] (K' := [(1, .slice A1_0 a1.length n1_0), (7, .slice A0_0 a0.length n0_0), (8, .int .i64 (a0.length : Int)), (9, .int .i64 0)]) (by kernel_rfl) ?_
    intro t hK
    refine gc_loop (nflog_Within_l17 a0 a1) (fun s7 t I' L' => I ≤ I' ∧ L = L' ∧ Knows 18 [(1, .slice A1_0 a1.length n1_0), (7, .slice A0_0 a0.length n0_0), (8, .int .i64 (a0.length : Int)), (9, .int .i64 s7)] t) (by kernel_rfl) ?_ hl6 ⟨(Imm.refl _), rfl, hK⟩
    rintro s7 o8 t I12 L' hb9 ⟨hI10, rfl, hK11⟩
    unfold nflog_Within_l17 at hb9
    refine gk_at hK11 ?_
    refine gk_seq (by kernel_rfl) ?_
    refine gk_region (by kernel_rfl) ?_
    refine gl_pure 1 [1, 7, 8, 9, 10] (K' := [(1, .slice A1_0 a1.length n1_0), (7, .slice A0_0 a0.length n0_0), (8, .int .i64 (a0.length : Int)), (9, .int .i64 s7), (10, .bool (decide (s7 < (a0.length : Int))))]) (by kernel_rfl) ?_
    refine gl_atE (by kernel_rfl) ?_
    refine ge_seq ?_
    refine gk_seq (by kernel_rfl) ?_
    refine gk_cond (b := (decide (s7 < (a0.length : Int)))) (by kernel_rfl) (by kernel_rfl) (fun hc19 => ?_) (fun hc19 => ?_)
    · have hb9 := cond_t hc19 hb9
      refine gk_skip (by kernel_rfl) ?_
      refine ge_seq ?_
      refine gk_seq (by kernel_rfl) ?_
      refine gk_block (by kernel_rfl) ?_
      refine gk_seq (by kernel_rfl) ?_
      refine gk_region (by kernel_rfl) ?_
      obtain ⟨x20, hx21, hb9⟩ := bind_some hb9
      obtain ⟨p22, cs23, hR24, hA25, ha26⟩ := RepS.ixAt hx21 (hf0_0.mono hI10)
      have hi27 := ix_some hx21
      obtain ⟨A28, n29, rfl, hf30⟩ := sl_open hR24
      refine gl_indexAddrF (c := n0_0) (T' := 22) (e := 25) (xs := (.tmp 7)) (xi := (.tmp 9)) (kd := .i64) ha26 hi27.1 hi27.2.1 (by kernel_rfl) (by kernel_rfl) (by kernel_rfl) (by kernel_rfl) (by kernel_rfl) ?_
      refine gl_load (T' := 25) (xp := (.tmp 11)) (p := p22) (c := .slice A28 x20.length n29) (n := 1) (by kernel_rfl) (by kernel_rfl) (by kernel_rfl) (by kernel_rfl) hA25 ?_
      refine gl_alloc (T' := 25) (cs := #[.slice none 0 0]) (by kernel_rfl) (by kernel_rfl) (by kernel_rfl) (fun g31 => ?_)
      refine gl_storeB (T' := 25) (xp := (.tmp 6)) (xv := (.tmp 12)) (v := .slice A28 x20.length n29) (g := g31) (off := 0) (cs := #[.slice none 0 0]) (cs' := #[.slice A28 x20.length n29]) (by kernel_rfl) (by kernel_rfl) (by kernel_rfl) (by kernel_rfl) (by kernel_rfl) (Upd.set _ _ _ _) ?_ (by kernel_rfl)
      refine gl_atE (by kernel_rfl) ?_
      refine ge_seq ?_
      refine gk_seq (by kernel_rfl) ?_
      refine gk_region (by kernel_rfl) ?_
      refine gl_pure 2 [1, 7, 8, 9, 13, 14] (K' := [(1, .slice A1_0 a1.length n1_0), (7, .slice A0_0 a0.length n0_0), (8, .int .i64 (a0.length : Int)), (9, .int .i64 s7), (13, .slice A1_0 a1.length n1_0), (14, .func (.func 75) #[] #[.pointer (some ⟨g31, 0, none⟩)])]) (by kernel_rfl) ?_
      obtain ⟨y32, hx33, hb9⟩ := bind_some hb9
      refine gl_callB (r := .bool y32) (Tk.step (Upd.rm1 _ _) (Tk.nil _)) (by kernel_rfl) (fun J hJ hC => slices_ContainsFunc_walk (r := y32) (hf1_0.mono (Imm.trans hI10 hJ)) (nflog_Within_1_impl105 hC.left.blk (hf30.mono hJ)) hx33 _) ?_
      refine gl_pure 1 [1, 7, 8, 9, 16] (K' := [(1, .slice A1_0 a1.length n1_0), (7, .slice A0_0 a0.length n0_0), (8, .int .i64 (a0.length : Int)), (9, .int .i64 s7), (16, .bool (!y32))]) (by kernel_rfl) ?_
      refine gl_atE (by kernel_rfl) ?_
      refine ge_seq ?_
      refine gk_cond (b := (!y32)) (by kernel_rfl) (by kernel_rfl) (fun hc34 => ?_) (fun hc34 => ?_)
      · have hb9 := cond_t hc34 hb9
        refine gk_seq (by kernel_rfl) ?_
        refine gk_region (by kernel_rfl) ?_
        refine gl_pure 1 [4] (K' := [(4, .bool false)]) (by kernel_rfl) ?_
        refine gl_atE (by kernel_rfl) ?_
        refine ge_seq ?_
        refine gk_reord (D := L) (Reord.skip (Reord.refl _)) ?_
        refine gk_ret (by kernel_rfl) ?_
        refine ge_block_ret ?_
        refine ge_seq_ret ?_
        obtain rfl := some_inj hb9
        refine ge_round_out (fun hrr => ?_) (by intro h; cases h)
        obtain rfl := hrr
        refine ge_block_ret ?_
        refine ge_seq_ret ?_
        refine ge_seq_ret ?_
        obtain rfl := some_inj hr
        exact ge_result trivial (ResOk.tmp (by kernel_rfl) ResOk.nil) hI10 ⟨rfl, rfl⟩
      · have hb9 := cond_f hc34 hb9
        refine gk_skip (by kernel_rfl) ?_
        refine ge_block_normal ?_
        refine ge_seq ?_
        refine gk_region (by kernel_rfl) ?_
        refine gl_pure 2 [1, 7, 8, 9] (K' := [(1, .slice A1_0 a1.length n1_0), (7, .slice A0_0 a0.length n0_0), (8, .int .i64 (a0.length : Int)), (9, .int .i64 (IntKind.wrap .i64 (s7 + 1)))]) (by kernel_rfl) ?_
        refine gl_reord (D := L) (Reord.skip (Reord.refl _)) ?_
        refine gl_atE (by kernel_rfl) ?_
        obtain rfl := some_inj hb9
        exact ge_round fun t ht => ⟨hI10, rfl, ht.pick (l := [1, 7, 8, 9]) (by kernel_rfl)⟩
    · have hb9 := cond_f hc19 hb9
      refine gk_exit (by kernel_rfl) ?_
      refine ge_seq_exit ?_
      obtain rfl := some_inj hb9
      refine ge_round_out (fun hrr => ?_) (by intro h; cases h)
      obtain rfl := hrr
      refine ge_block_hit (by kernel_rfl) ?_
      exact ge_mid fun t ht => ⟨_, rfl, hI10, rfl, ht.pick (l := []) (by kernel_rfl)⟩
  · rintro t I16 L' ⟨r13, rfl, hI14, rfl, hK15⟩
    refine ge_at hK15 ?_
    refine ge_seq ?_
    refine gk_seq (by kernel_rfl) ?_
    refine gk_region (by kernel_rfl) ?_
    refine gl_pure 1 [4] (K' := [(4, .bool true)]) (by kernel_rfl) ?_
    refine gl_atE (by kernel_rfl) ?_
    refine ge_seq ?_
    refine gk_ret (by kernel_rfl) ?_
    obtain rfl := some_inj hr
    exact ge_result trivial (ResOk.tmp (by kernel_rfl) ResOk.nil) hI14 ⟨rfl, rfl⟩
/-! 42 nflog_Needs  -/
noncomputable def nflog_Needs (a0 : S23) (a1 : Bool) (a2 : Int) (a3 : Int) (a4 : List (List S53)) (a5 : List (List S53)) : Option (Bool × Int) :=
  bif ((((decide (a2 < 0)) || (decide (a2 > 1125899906842624))) || (decide (a3 < 1))) || (decide (a3 > 1099511627776))) then
  (some (false, 1))
  else
  (Option.bind (Option.bind (nflog_right a4) fun (y16 : Bool) =>
      bif (!y16) then
      (some true)
      else
      (Option.bind (nflog_right a5) fun (y19 : Bool) =>
        some (!y19))) fun (j11 : Bool) =>
    bif j11 then
    (some (false, 41))
    else
    (bif (!a1) then
      (some ((decide ((a4.length : Int) > 0)), 0))
      else
      (Option.bind (nflog_Right a0) fun (y23 : Int) =>
        bif (y23 != 0) then
        (some (false, y23))
        else
        (Option.bind (nflog_Within a4 a0.f3) fun (y26 : Bool) =>
          bif (!y26) then
          (some (true, 0))
          else
          (bif ((a4.length : Int) == 0) then
            (some ((decide ((a0.f3.length : Int) > 0)), 0))
            else
            (Option.bind (nflog_Within a5 a0.f4) fun (y30 : Bool) =>
              bif (!y30) then
              (some (true, 0))
              else
              (some ((decide (a0.f2 ≤ (IntKind.wrap .i64 (a2 - a3)))), 0))))))))
theorem nflog_Needs_walk {a0 : S23} {A0_3 : Option Addr} {n0_3 : Nat} {A0_4 : Option Addr} {n0_4 : Nat} {a1 : Bool} {a2 : Int} {a3 : Int} {a4 : List (List S53)} {A4_0 : Option Addr} {n4_0 : Nat} {a5 : List (List S53)} {A5_0 : Option Addr} {n5_0 : Nat} {I : Imm} {r : Bool × Int} (hG : Gl I)  (hf0_3 : RepS (Kd.sl kS53) I A0_3 n0_3 a0.f3) (hf0_4 : RepS (Kd.sl kS53) I A0_4 n0_4 a0.f4)  (hf4_0 : RepS (Kd.sl kS53) I A4_0 n4_0 a4)  (hf5_0 : RepS (Kd.sl kS53) I A5_0 n5_0 a5) (hr : nflog_Needs a0 a1 a2 a3 a4 a5 = some r) (L : Own) :
    CallsTo Tryd.prog 42 #[.agg #[.string a0.f0, .string a0.f1, .int .i64 a0.f2, .slice A0_3 a0.f3.length n0_3, .slice A0_4 a0.f4.length n0_4], .bool a1, .int .i64 a2, .int .i64 a3, .slice A4_0 a4.length n4_0, .slice A5_0 a5.length n5_0] I L (fun v I' L' => v = .tuple #[.bool r.1, .int .i64 r.2] ∧ L = L') := by
  unfold nflog_Needs at hr
  refine callsTo_body (N := 76) Tryd.func42 (by kernel_rfl) (by kernel_rfl) (by kernel_rfl) ?_
  refine gk_pick [0, 1, 2, 3, 4, 5] (K' := [(0, .agg #[.string a0.f0, .string a0.f1, .int .i64 a0.f2, .slice A0_3 a0.f3.length n0_3, .slice A0_4 a0.f4.length n0_4]), (1, .bool a1), (2, .int .i64 a2), (3, .int .i64 a3), (4, .slice A4_0 a4.length n4_0), (5, .slice A5_0 a5.length n5_0)]) (by kernel_rfl) ?_
  refine gk_seq (by kernel_rfl) ?_
  refine gk_region (by kernel_rfl) ?_
  refine gl_box (T' := 24) (x := (.tmp 0)) (v := .agg #[.string a0.f0, .string a0.f1, .int .i64 a0.f2, .slice A0_3 a0.f3.length n0_3, .slice A0_4 a0.f4.length n0_4]) (cs := #[.string a0.f0, .string a0.f1, .int .i64 a0.f2, .slice A0_3 a0.f3.length n0_3, .slice A0_4 a0.f4.length n0_4]) (by kernel_rfl) (by kernel_rfl) (by kernel_rfl) (by kernel_rfl) (fun gb1 => ?_)
  refine gl_pure 2 [1, 2, 3, 4, 5, 6] (K' := [(1, .bool a1), (2, .int .i64 a2), (3, .int .i64 a3), (4, .slice A4_0 a4.length n4_0), (5, .slice A5_0 a5.length n5_0), (6, .pointer (some ⟨gb1, 0, none⟩))]) (by kernel_rfl) ?_
  refine gl_atE (by kernel_rfl) ?_
  refine ge_seq ?_
  refine gk_seq (by kernel_rfl) ?_
  refine gk_block (by kernel_rfl) ?_
  refine gk_seq (by kernel_rfl) ?_
  obtain ⟨b4, hb5⟩ : ∃ z, z = ((((decide (a2 < 0)) || (decide (a2 > 1125899906842624))) || (decide (a3 < 1))) || (decide (a3 > 1099511627776))) := ⟨_, rfl⟩
  refine gk_join (fun t I' L' => I ≤ I' ∧ (gb1, .cells #[.string a0.f0, .string a0.f1, .int .i64 a0.f2, .slice A0_3 a0.f3.length n0_3, .slice A0_4 a0.f4.length n0_4] 24) :: L = L' ∧ Knows 76 [(1, .bool a1), (2, .int .i64 a2), (3, .int .i64 a3), (4, .slice A4_0 a4.length n4_0), (5, .slice A5_0 a5.length n5_0), (6, .pointer (some ⟨gb1, 0, none⟩)), (15, .bool b4)] t) ?_ ?_
  · refine gk_region (by kernel_rfl) ?_
    refine gl_pure 3 [1, 2, 3, 4, 5, 6, 18] (K' := [(1, .bool a1), (2, .int .i64 a2), (3, .int .i64 a3), (4, .slice A4_0 a4.length n4_0), (5, .slice A5_0 a5.length n5_0), (6, .pointer (some ⟨gb1, 0, none⟩)), (18, .bool (decide (a2 < 0)))]) (by kernel_rfl) ?_
    refine gl_case 18 (b := (decide (a2 < 0))) (by kernel_rfl) (fun hc7 => ?_) (fun hc7 => ?_)
    · refine gl_pure 12 [1, 2, 3, 4, 5, 6, 15] (K' := [(1, .bool a1), (2, .int .i64 a2), (3, .int .i64 a3), (4, .slice A4_0 a4.length n4_0), (5, .slice A5_0 a5.length n5_0), (6, .pointer (some ⟨gb1, 0, none⟩)), (15, .bool true)]) (by kernel_rfl) ?_
      refine gl_atE (by kernel_rfl) ?_
      exact ge_mid fun t ht => ⟨(Imm.refl _), rfl, by rw [(show b4 = true from hb5.trans (by first | (rw [hc7]; done) | (rw [hc7]; rfl) | (simp [hc7]; done) | (simp only [hc7]; rfl) | (simp at *; omega)))]; exact ht.pick (l := [1, 2, 3, 4, 5, 6, 15]) (by kernel_rfl)⟩
    · refine gl_pure 4 [1, 2, 3, 4, 5, 6, 22] (K' := [(1, .bool a1), (2, .int .i64 a2), (3, .int .i64 a3), (4, .slice A4_0 a4.length n4_0), (5, .slice A5_0 a5.length n5_0), (6, .pointer (some ⟨gb1, 0, none⟩)), (22, .bool (decide (a2 > 1125899906842624)))]) (by kernel_rfl) ?_
      refine gl_case 22 (b := (decide (a2 > 1125899906842624))) (by kernel_rfl) (fun hc8 => ?_) (fun hc8 => ?_)
      · refine gl_pure 8 [1, 2, 3, 4, 5, 6, 15] (K' := [(1, .bool a1), (2, .int .i64 a2), (3, .int .i64 a3), (4, .slice A4_0 a4.length n4_0), (5, .slice A5_0 a5.length n5_0), (6, .pointer (some ⟨gb1, 0, none⟩)), (15, .bool true)]) (by kernel_rfl) ?_
        refine gl_atE (by kernel_rfl) ?_
        exact ge_mid fun t ht => ⟨(Imm.refl _), rfl, by rw [(show b4 = true from hb5.trans (by first | (rw [hc7, hc8]; done) | (rw [hc7, hc8]; rfl) | (simp [hc7, hc8]; done) | (simp only [hc7, hc8]; rfl) | (simp at *; omega)))]; exact ht.pick (l := [1, 2, 3, 4, 5, 6, 15]) (by kernel_rfl)⟩
      · refine gl_pure 4 [1, 2, 3, 4, 5, 6, 26] (K' := [(1, .bool a1), (2, .int .i64 a2), (3, .int .i64 a3), (4, .slice A4_0 a4.length n4_0), (5, .slice A5_0 a5.length n5_0), (6, .pointer (some ⟨gb1, 0, none⟩)), (26, .bool (decide (a3 < 1)))]) (by kernel_rfl) ?_
        refine gl_case 26 (b := (decide (a3 < 1))) (by kernel_rfl) (fun hc9 => ?_) (fun hc9 => ?_)
        · refine gl_pure 4 [1, 2, 3, 4, 5, 6, 15] (K' := [(1, .bool a1), (2, .int .i64 a2), (3, .int .i64 a3), (4, .slice A4_0 a4.length n4_0), (5, .slice A5_0 a5.length n5_0), (6, .pointer (some ⟨gb1, 0, none⟩)), (15, .bool true)]) (by kernel_rfl) ?_
          refine gl_atE (by kernel_rfl) ?_
          exact ge_mid fun t ht => ⟨(Imm.refl _), rfl, by rw [(show b4 = true from hb5.trans (by first | (rw [hc7, hc8, hc9]; done) | (rw [hc7, hc8, hc9]; rfl) | (simp [hc7, hc8, hc9]; done) | (simp only [hc7, hc8, hc9]; rfl) | (simp at *; omega)))]; exact ht.pick (l := [1, 2, 3, 4, 5, 6, 15]) (by kernel_rfl)⟩
        · refine gl_pure 4 [1, 2, 3, 4, 5, 6, 15] (K' := [(1, .bool a1), (2, .int .i64 a2), (3, .int .i64 a3), (4, .slice A4_0 a4.length n4_0), (5, .slice A5_0 a5.length n5_0), (6, .pointer (some ⟨gb1, 0, none⟩)), (15, .bool (decide (a3 > 1099511627776)))]) (by kernel_rfl) ?_
          refine gl_atE (by kernel_rfl) ?_
          exact ge_mid fun t ht => ⟨(Imm.refl _), rfl, by rw [(show b4 = (decide (a3 > 1099511627776)) from hb5.trans (by first | (rw [hc7, hc8, hc9]; done) | (rw [hc7, hc8, hc9]; rfl) | (simp [hc7, hc8, hc9]; done) | (simp only [hc7, hc8, hc9]; rfl) | (simp at *; omega)))]; exact ht.pick (l := [1, 2, 3, 4, 5, 6, 15]) (by kernel_rfl)⟩
  · rintro t I6 L' ⟨hI2, rfl, hK3⟩
    subst hb5
    refine ge_at hK3 ?_
    refine ge_seq ?_
    refine gk_cond (b := ((((decide (a2 < 0)) || (decide (a2 > 1125899906842624))) || (decide (a3 < 1))) || (decide (a3 > 1099511627776)))) (by kernel_rfl) (by kernel_rfl) (fun hc10 => ?_) (fun hc10 => ?_)
    · have hr := cond_t hc10 hr
      refine gk_seq (by kernel_rfl) ?_
      refine gk_region (by kernel_rfl) ?_
      refine gl_pure 2 [12, 13] (K' := [(12, .bool false), (13, .int .i64 1)]) (by kernel_rfl) ?_
      refine gl_atE (by kernel_rfl) ?_
      refine ge_seq ?_
      refine gk_reord (D := L) (Reord.skip (Reord.refl _)) ?_
      refine gk_ret (by kernel_rfl) ?_
      refine ge_block_ret ?_
      refine ge_seq_ret ?_
      obtain rfl := some_inj hr
      exact ge_result trivial (ResOk.tmp (by kernel_rfl) (ResOk.tmp (by kernel_rfl) ResOk.nil)) hI2 ⟨rfl, rfl⟩
    · have hr := cond_f hc10 hr
      refine gk_seq (by kernel_rfl) ?_
      obtain ⟨j11, hj12, hr⟩ := bind_some hr
      refine gk_join (fun t I' L' => I6 ≤ I' ∧ (gb1, .cells #[.string a0.f0, .string a0.f1, .int .i64 a0.f2, .slice A0_3 a0.f3.length n0_3, .slice A0_4 a0.f4.length n0_4] 24) :: L = L' ∧ Knows 76 [(1, .bool a1), (2, .int .i64 a2), (3, .int .i64 a3), (4, .slice A4_0 a4.length n4_0), (5, .slice A5_0 a5.length n5_0), (6, .pointer (some ⟨gb1, 0, none⟩)), (30, .bool j11)] t) ?_ ?_
      · refine gk_region (by kernel_rfl) ?_
        refine gl_pure 1 [1, 2, 3, 4, 5, 6, 31] (K' := [(1, .bool a1), (2, .int .i64 a2), (3, .int .i64 a3), (4, .slice A4_0 a4.length n4_0), (5, .slice A5_0 a5.length n5_0), (6, .pointer (some ⟨gb1, 0, none⟩)), (31, .slice A4_0 a4.length n4_0)]) (by kernel_rfl) ?_
        obtain ⟨y16, hx17, hj12⟩ := bind_some hj12
        refine gl_callQ (by kernel_rfl) (nflog_right_walk (r := y16) (hG.mono hI2) (hf4_0.mono hI2) hx17 _) ?_
        refine gl_pure 2 [1, 2, 3, 4, 5, 6, 34] (K' := [(1, .bool a1), (2, .int .i64 a2), (3, .int .i64 a3), (4, .slice A4_0 a4.length n4_0), (5, .slice A5_0 a5.length n5_0), (6, .pointer (some ⟨gb1, 0, none⟩)), (34, .bool (!y16))]) (by kernel_rfl) ?_
        refine gl_case 34 (b := (!y16)) (by kernel_rfl) (fun hc18 => ?_) (fun hc18 => ?_)
        · have hj12 := cond_t hc18 hj12
          refine gl_pure 5 [1, 2, 3, 4, 5, 6, 30] (K' := [(1, .bool a1), (2, .int .i64 a2), (3, .int .i64 a3), (4, .slice A4_0 a4.length n4_0), (5, .slice A5_0 a5.length n5_0), (6, .pointer (some ⟨gb1, 0, none⟩)), (30, .bool true)]) (by kernel_rfl) ?_
          refine gl_atE (by kernel_rfl) ?_
          obtain rfl := some_inj hj12
          exact ge_mid fun t ht => ⟨(Imm.refl _), rfl, ht.pick (l := [1, 2, 3, 4, 5, 6, 30]) (by kernel_rfl)⟩
        · have hj12 := cond_f hc18 hj12
          refine gl_pure 1 [1, 2, 3, 4, 5, 6, 34, 35] (K' := [(1, .bool a1), (2, .int .i64 a2), (3, .int .i64 a3), (4, .slice A4_0 a4.length n4_0), (5, .slice A5_0 a5.length n5_0), (6, .pointer (some ⟨gb1, 0, none⟩)), (34, .bool false), (35, .slice A5_0 a5.length n5_0)]) (by kernel_rfl) ?_
          obtain ⟨y19, hx20, hj12⟩ := bind_some hj12
          refine gl_callQ (by kernel_rfl) (nflog_right_walk (r := y19) (hG.mono hI2) (hf5_0.mono hI2) hx20 _) ?_
          refine gl_pure 3 [1, 2, 3, 4, 5, 6, 30] (K' := [(1, .bool a1), (2, .int .i64 a2), (3, .int .i64 a3), (4, .slice A4_0 a4.length n4_0), (5, .slice A5_0 a5.length n5_0), (6, .pointer (some ⟨gb1, 0, none⟩)), (30, .bool (!y19))]) (by kernel_rfl) ?_
          refine gl_atE (by kernel_rfl) ?_
          obtain rfl := some_inj hj12
          exact ge_mid fun t ht => ⟨(Imm.refl _), rfl, ht.pick (l := [1, 2, 3, 4, 5, 6, 30]) (by kernel_rfl)⟩
      · rintro t I15 L' ⟨hI13, rfl, hK14⟩
        refine ge_at hK14 ?_
        refine ge_seq ?_
        refine gk_cond (b := j11) (by kernel_rfl) (by kernel_rfl) (fun hc21 => ?_) (fun hc21 => ?_)
        · have hr := cond_t hc21 hr
          refine gk_seq (by kernel_rfl) ?_
          refine gk_region (by kernel_rfl) ?_
          refine gl_pure 2 [12, 13] (K' := [(12, .bool false), (13, .int .i64 41)]) (by kernel_rfl) ?_
          refine gl_atE (by kernel_rfl) ?_
          refine ge_seq ?_
          refine gk_reord (D := L) (Reord.skip (Reord.refl _)) ?_
          refine gk_ret (by kernel_rfl) ?_
          refine ge_block_ret ?_
          refine ge_seq_ret ?_
          obtain rfl := some_inj hr
          exact ge_result trivial (ResOk.tmp (by kernel_rfl) (ResOk.tmp (by kernel_rfl) ResOk.nil)) (Imm.trans hI2 hI13) ⟨rfl, rfl⟩
        · have hr := cond_f hc21 hr
          refine gk_seq (by kernel_rfl) ?_
          refine gk_region (by kernel_rfl) ?_
          refine gl_pure 3 [2, 3, 4, 5, 6, 39] (K' := [(2, .int .i64 a2), (3, .int .i64 a3), (4, .slice A4_0 a4.length n4_0), (5, .slice A5_0 a5.length n5_0), (6, .pointer (some ⟨gb1, 0, none⟩)), (39, .bool (!a1))]) (by kernel_rfl) ?_
          refine gl_atE (by kernel_rfl) ?_
          refine ge_seq ?_
          refine gk_cond (b := (!a1)) (by kernel_rfl) (by kernel_rfl) (fun hc22 => ?_) (fun hc22 => ?_)
          · have hr := cond_t hc22 hr
            refine gk_seq (by kernel_rfl) ?_
            refine gk_region (by kernel_rfl) ?_
            refine gl_pure 5 [12, 13] (K' := [(12, .bool (decide ((a4.length : Int) > 0))), (13, .int .i64 0)]) (by kernel_rfl) ?_
            refine gl_atE (by kernel_rfl) ?_
            refine ge_seq ?_
            refine gk_reord (D := L) (Reord.skip (Reord.refl _)) ?_
            refine gk_ret (by kernel_rfl) ?_
            refine ge_block_ret ?_
            refine ge_seq_ret ?_
            obtain rfl := some_inj hr
            exact ge_result trivial (ResOk.tmp (by kernel_rfl) (ResOk.tmp (by kernel_rfl) ResOk.nil)) (Imm.trans hI2 hI13) ⟨rfl, rfl⟩
          · have hr := cond_f hc22 hr
            refine gk_skip (by kernel_rfl) ?_
            refine ge_block_normal ?_
            refine ge_seq ?_
            refine gk_seq (by kernel_rfl) ?_
            refine gk_seq (by kernel_rfl) ?_
            refine gk_region (by kernel_rfl) ?_
            refine gl_loadB (T' := 24) (xp := (.tmp 6)) (v := .agg #[.string a0.f0, .string a0.f1, .int .i64 a0.f2, .slice A0_3 a0.f3.length n0_3, .slice A0_4 a0.f4.length n0_4]) (g := gb1) (off := 0) (cs := #[.string a0.f0, .string a0.f1, .int .i64 a0.f2, .slice A0_3 a0.f3.length n0_3, .slice A0_4 a0.f4.length n0_4]) (e := 24) (fz := (0, 0)) (by kernel_rfl) (by kernel_rfl) (by kernel_rfl) List.mem_cons_self (by kernel_rfl) ?_
            obtain ⟨y23, hx24, hr⟩ := bind_some hr
            refine gl_callQ (by kernel_rfl) (nflog_Right_walk (r := y23) (hG.mono (Imm.trans hI2 hI13)) (hf0_3.mono (Imm.trans hI2 hI13)) (hf0_4.mono (Imm.trans hI2 hI13)) hx24 _) ?_
            refine gl_pure 1 [2, 3, 4, 5, 6, 14] (K' := [(2, .int .i64 a2), (3, .int .i64 a3), (4, .slice A4_0 a4.length n4_0), (5, .slice A5_0 a5.length n5_0), (6, .pointer (some ⟨gb1, 0, none⟩)), (14, .int .i64 y23)]) (by kernel_rfl) ?_
            refine gl_atE (by kernel_rfl) ?_
            refine ge_seq ?_
            refine gk_seq (by kernel_rfl) ?_
            refine gk_region (by kernel_rfl) ?_
            refine gl_pure 2 [2, 3, 4, 5, 6, 14, 48] (K' := [(2, .int .i64 a2), (3, .int .i64 a3), (4, .slice A4_0 a4.length n4_0), (5, .slice A5_0 a5.length n5_0), (6, .pointer (some ⟨gb1, 0, none⟩)), (14, .int .i64 y23), (48, .bool (y23 != 0))]) (by kernel_rfl) ?_
            refine gl_atE (by kernel_rfl) ?_
            refine ge_seq ?_
            refine gk_cond (b := (y23 != 0)) (by kernel_rfl) (by kernel_rfl) (fun hc25 => ?_) (fun hc25 => ?_)
            · have hr := cond_t hc25 hr
              refine gk_seq (by kernel_rfl) ?_
              refine gk_region (by kernel_rfl) ?_
              refine gl_pure 3 [12, 13] (K' := [(12, .bool false), (13, .int .i64 y23)]) (by kernel_rfl) ?_
              refine gl_atE (by kernel_rfl) ?_
              refine ge_seq ?_
              refine gk_reord (D := L) (Reord.skip (Reord.refl _)) ?_
              refine gk_ret (by kernel_rfl) ?_
              refine ge_seq_ret ?_
              obtain rfl := some_inj hr
              exact ge_result trivial (ResOk.tmp (by kernel_rfl) (ResOk.tmp (by kernel_rfl) ResOk.nil)) (Imm.trans hI2 hI13) ⟨rfl, rfl⟩
            · have hr := cond_f hc25 hr
              refine gk_skip (by kernel_rfl) ?_
              refine ge_seq ?_
              refine gk_seq (by kernel_rfl) ?_
              refine gk_block (by kernel_rfl) ?_
              refine gk_seq (by kernel_rfl) ?_
              refine gk_region (by kernel_rfl) ?_
              refine gl_pure 2 [2, 3, 4, 5, 6, 51, 52] (K' := [(2, .int .i64 a2), (3, .int .i64 a3), (4, .slice A4_0 a4.length n4_0), (5, .slice A5_0 a5.length n5_0), (6, .pointer (some ⟨gb1, 0, none⟩)), (51, .slice A4_0 a4.length n4_0), (52, .pointer (some ⟨gb1, 3, none⟩))]) (by kernel_rfl) ?_
              refine gl_loadB (T' := 22) (xp := (.tmp 52)) (v := .slice A0_3 a0.f3.length n0_3) (g := gb1) (off := 3) (cs := #[.string a0.f0, .string a0.f1, .int .i64 a0.f2, .slice A0_3 a0.f3.length n0_3, .slice A0_4 a0.f4.length n0_4]) (e := 24) (fz := (0, 0)) (by kernel_rfl) (by kernel_rfl) (by kernel_rfl) List.mem_cons_self (by kernel_rfl) ?_
              obtain ⟨y26, hx27, hr⟩ := bind_some hr
              refine gl_callQ (by kernel_rfl) (nflog_Within_walk (r := y26) (hf4_0.mono (Imm.trans hI2 hI13)) (hf0_3.mono (Imm.trans hI2 hI13)) hx27 _) ?_
              refine gl_pure 2 [2, 3, 4, 5, 6, 50] (K' := [(2, .int .i64 a2), (3, .int .i64 a3), (4, .slice A4_0 a4.length n4_0), (5, .slice A5_0 a5.length n5_0), (6, .pointer (some ⟨gb1, 0, none⟩)), (50, .bool (!y26))]) (by kernel_rfl) ?_
              refine gl_atE (by kernel_rfl) ?_
              refine ge_seq ?_
              refine gk_cond (b := (!y26)) (by kernel_rfl) (by kernel_rfl) (fun hc28 => ?_) (fun hc28 => ?_)
              · have hr := cond_t hc28 hr
                refine gk_seq (by kernel_rfl) ?_
                refine gk_region (by kernel_rfl) ?_
                refine gl_pure 2 [12, 13] (K' := [(12, .bool true), (13, .int .i64 0)]) (by kernel_rfl) ?_
                refine gl_atE (by kernel_rfl) ?_
                refine ge_seq ?_
                refine gk_reord (D := L) (Reord.skip (Reord.refl _)) ?_
                refine gk_ret (by kernel_rfl) ?_
                refine ge_block_ret ?_
                refine ge_seq_ret ?_
                obtain rfl := some_inj hr
                exact ge_result trivial (ResOk.tmp (by kernel_rfl) (ResOk.tmp (by kernel_rfl) ResOk.nil)) (Imm.trans hI2 hI13) ⟨rfl, rfl⟩
              · have hr := cond_f hc28 hr
                refine gk_seq (by kernel_rfl) ?_
                refine gk_region (by kernel_rfl) ?_
                refine gl_pure 4 [2, 3, 5, 6, 56] (K' := [(2, .int .i64 a2), (3, .int .i64 a3), (5, .slice A5_0 a5.length n5_0), (6, .pointer (some ⟨gb1, 0, none⟩)), (56, .bool ((a4.length : Int) == 0))]) (by kernel_rfl) ?_
                refine gl_atE (by kernel_rfl) ?_
                refine ge_seq ?_
                refine gk_cond (b := ((a4.length : Int) == 0)) (by kernel_rfl) (by kernel_rfl) (fun hc29 => ?_) (fun hc29 => ?_)
                · have hr := cond_t hc29 hr
                  refine gk_seq (by kernel_rfl) ?_
                  refine gk_region (by kernel_rfl) ?_
                  refine gl_pure 1 [60] (K' := [(60, .pointer (some ⟨gb1, 3, none⟩))]) (by kernel_rfl) ?_
                  refine gl_loadB (T' := 22) (xp := (.tmp 60)) (v := .slice A0_3 a0.f3.length n0_3) (g := gb1) (off := 3) (cs := #[.string a0.f0, .string a0.f1, .int .i64 a0.f2, .slice A0_3 a0.f3.length n0_3, .slice A0_4 a0.f4.length n0_4]) (e := 24) (fz := (0, 0)) (by kernel_rfl) (by kernel_rfl) (by kernel_rfl) List.mem_cons_self (by kernel_rfl) ?_
                  refine gl_pure 4 [12, 13] (K' := [(12, .bool (decide ((a0.f3.length : Int) > 0))), (13, .int .i64 0)]) (by kernel_rfl) ?_
                  refine gl_atE (by kernel_rfl) ?_
                  refine ge_seq ?_
                  refine gk_reord (D := L) (Reord.skip (Reord.refl _)) ?_
                  refine gk_ret (by kernel_rfl) ?_
                  refine ge_block_ret ?_
                  refine ge_seq_ret ?_
                  obtain rfl := some_inj hr
                  exact ge_result trivial (ResOk.tmp (by kernel_rfl) (ResOk.tmp (by kernel_rfl) ResOk.nil)) (Imm.trans hI2 hI13) ⟨rfl, rfl⟩
                · have hr := cond_f hc29 hr
                  refine gk_seq (by kernel_rfl) ?_
                  refine gk_region (by kernel_rfl) ?_
                  refine gl_pure 2 [2, 3, 6, 65, 66] (K' := [(2, .int .i64 a2), (3, .int .i64 a3), (6, .pointer (some ⟨gb1, 0, none⟩)), (65, .slice A5_0 a5.length n5_0), (66, .pointer (some ⟨gb1, 4, none⟩))]) (by kernel_rfl) ?_
                  refine gl_loadB (T' := 22) (xp := (.tmp 66)) (v := .slice A0_4 a0.f4.length n0_4) (g := gb1) (off := 4) (cs := #[.string a0.f0, .string a0.f1, .int .i64 a0.f2, .slice A0_3 a0.f3.length n0_3, .slice A0_4 a0.f4.length n0_4]) (e := 24) (fz := (0, 0)) (by kernel_rfl) (by kernel_rfl) (by kernel_rfl) List.mem_cons_self (by kernel_rfl) ?_
                  obtain ⟨y30, hx31, hr⟩ := bind_some hr
                  refine gl_callQ (by kernel_rfl) (nflog_Within_walk (r := y30) (hf5_0.mono (Imm.trans hI2 hI13)) (hf0_4.mono (Imm.trans hI2 hI13)) hx31 _) ?_
                  refine gl_pure 2 [2, 3, 6, 64] (K' := [(2, .int .i64 a2), (3, .int .i64 a3), (6, .pointer (some ⟨gb1, 0, none⟩)), (64, .bool (!y30))]) (by kernel_rfl) ?_
                  refine gl_atE (by kernel_rfl) ?_
                  refine ge_seq ?_
                  refine gk_cond (b := (!y30)) (by kernel_rfl) (by kernel_rfl) (fun hc32 => ?_) (fun hc32 => ?_)
                  · have hr := cond_t hc32 hr
                    refine gk_seq (by kernel_rfl) ?_
                    refine gk_region (by kernel_rfl) ?_
                    refine gl_pure 2 [12, 13] (K' := [(12, .bool true), (13, .int .i64 0)]) (by kernel_rfl) ?_
                    refine gl_atE (by kernel_rfl) ?_
                    refine ge_seq ?_
                    refine gk_reord (D := L) (Reord.skip (Reord.refl _)) ?_
                    refine gk_ret (by kernel_rfl) ?_
                    refine ge_block_ret ?_
                    refine ge_seq_ret ?_
                    obtain rfl := some_inj hr
                    exact ge_result trivial (ResOk.tmp (by kernel_rfl) (ResOk.tmp (by kernel_rfl) ResOk.nil)) (Imm.trans hI2 hI13) ⟨rfl, rfl⟩
                  · have hr := cond_f hc32 hr
                    refine gk_skip (by kernel_rfl) ?_
                    refine ge_block_normal ?_
                    refine ge_seq ?_
                    refine gk_seq (by kernel_rfl) ?_
                    refine gk_region (by kernel_rfl) ?_
                    refine gl_pure 1 [2, 3, 70] (K' := [(2, .int .i64 a2), (3, .int .i64 a3), (70, .pointer (some ⟨gb1, 2, none⟩))]) (by kernel_rfl) ?_
                    refine gl_loadB (T' := 2) (xp := (.tmp 70)) (v := .int .i64 a0.f2) (g := gb1) (off := 2) (cs := #[.string a0.f0, .string a0.f1, .int .i64 a0.f2, .slice A0_3 a0.f3.length n0_3, .slice A0_4 a0.f4.length n0_4]) (e := 24) (fz := (0, 0)) (by kernel_rfl) (by kernel_rfl) (by kernel_rfl) List.mem_cons_self (by kernel_rfl) ?_
                    refine gl_pure 6 [12, 13] (K' := [(12, .bool (decide (a0.f2 ≤ (IntKind.wrap .i64 (a2 - a3))))), (13, .int .i64 0)]) (by kernel_rfl) ?_
                    refine gl_atE (by kernel_rfl) ?_
                    refine ge_seq ?_
                    refine gk_reord (D := L) (Reord.skip (Reord.refl _)) ?_
                    refine gk_ret (by kernel_rfl) ?_
                    obtain rfl := some_inj hr
                    exact ge_result trivial (ResOk.tmp (by kernel_rfl) (ResOk.tmp (by kernel_rfl) ResOk.nil)) (Imm.trans hI2 hI13) ⟨rfl, rfl⟩
/-! 24 nflog_Log_Needs ('obj', 'imm', 'imm', 'imm', 'imm', 'imm', 'imm') -/
noncomputable def nflog_Log_Needs (a0 : S45) (a1 : ByteArray) (a2 : ByteArray) (a3 : Int) (a4 : Int) (a5 : List (List S53)) (a6 : List (List S53)) : Option (Bool × Int) :=
  Option.bind (nflog_Log_Find a0 a1 a2) fun (y1 : S23 × Bool) =>
  Option.bind (nflog_Needs y1.1 y1.2 a3 a4 a5 a6) fun (y13 : Bool × Int) =>
  some (y13.1, y13.2)
theorem nflog_Log_Needs_walk {a0 : S45} {g0 : Nat} {T0 : TypeId} {A0_0 : Option Addr} {c0_0 : Nat} {C0_0 : Own} {a1 : ByteArray} {a2 : ByteArray} {a3 : Int} {a4 : Int} {a5 : List (List S53)} {A5_0 : Option Addr} {n5_0 : Nat} {a6 : List (List S53)} {A6_0 : Option Addr} {n6_0 : Nat} {I : Imm} {r : Bool × Int} (hG : Gl I)  (hO0_0 : OwnS kS76 77 I A0_0 c0_0 a0.f0.f0 C0_0)  (hf5_0 : RepS (Kd.sl kS53) I A5_0 n5_0 a5)  (hf6_0 : RepS (Kd.sl kS53) I A6_0 n6_0 a6) (hr : nflog_Log_Needs a0 a1 a2 a3 a4 a5 a6 = some r) (L : Own) :
    CallsTo Tryd.prog 24 #[.pointer (some ⟨g0, 0, none⟩), .string a1, .string a2, .int .i64 a3, .int .i64 a4, .slice A5_0 a5.length n5_0, .slice A6_0 a6.length n6_0] I ((g0, .cells #[.slice A0_0 a0.f0.f0.length c0_0] T0) :: (C0_0 ++ L)) (fun v I' L' => v = .tuple #[.bool r.1, .int .i64 r.2] ∧ (g0, .cells #[.slice A0_0 a0.f0.f0.length c0_0] T0) :: (C0_0 ++ L) = L') := by
  unfold nflog_Log_Needs at hr
  refine callsTo_body (N := 36) Tryd.func24 (by kernel_rfl) (by kernel_rfl) (by kernel_rfl) ?_
  refine gk_pick [0, 1, 2, 3, 4, 5, 6] (K' := [(0, .pointer (some ⟨g0, 0, none⟩)), (1, .string a1), (2, .string a2), (3, .int .i64 a3), (4, .int .i64 a4), (5, .slice A5_0 a5.length n5_0), (6, .slice A6_0 a6.length n6_0)]) (by kernel_rfl) ?_
  refine gk_seq (by kernel_rfl) ?_
  refine gk_region (by kernel_rfl) ?_
  refine gl_pure 2 [0, 1, 2, 3, 4, 5, 6] (K' := [(0, .pointer (some ⟨g0, 0, none⟩)), (1, .string a1), (2, .string a2), (3, .int .i64 a3), (4, .int .i64 a4), (5, .slice A5_0 a5.length n5_0), (6, .slice A6_0 a6.length n6_0)]) (by kernel_rfl) ?_
  refine gl_atE (by kernel_rfl) ?_
  refine ge_seq ?_
  refine gk_seq (by kernel_rfl) ?_
  refine gk_seq (by kernel_rfl) ?_
  refine gk_region (by kernel_rfl) ?_
  refine gl_pure 2 [0, 1, 2, 3, 4, 5, 6, 19] (K' := [(0, .pointer (some ⟨g0, 0, none⟩)), (1, .string a1), (2, .string a2), (3, .int .i64 a3), (4, .int .i64 a4), (5, .slice A5_0 a5.length n5_0), (6, .slice A6_0 a6.length n6_0), (19, .bool false)]) (by kernel_rfl) ?_
  refine gl_atE (by kernel_rfl) ?_
  refine ge_seq ?_
  refine gk_cond (b := false) (by kernel_rfl) (by kernel_rfl) (fun h => by cases h) (fun _ => ?_)
  refine gk_skip (by kernel_rfl) ?_
  refine ge_seq ?_
  refine gk_seq (by kernel_rfl) ?_
  refine gk_region (by kernel_rfl) ?_
  refine gl_pure 3 [3, 4, 5, 6, 21, 22, 23] (K' := [(3, .int .i64 a3), (4, .int .i64 a4), (5, .slice A5_0 a5.length n5_0), (6, .slice A6_0 a6.length n6_0), (21, .pointer (some ⟨g0, 0, none⟩)), (22, .string a1), (23, .string a2)]) (by kernel_rfl) ?_
  obtain ⟨y1, hx2, hr⟩ := bind_some hr
  refine gl_call (by kernel_rfl) (nflog_Log_Find_walk (r := y1) (g0 := g0) (T0 := T0) (A0_0 := A0_0) (c0_0 := c0_0) (C0_0 := C0_0) (a0 := a0) hO0_0 hx2 _) ?_
  rintro v I3 L4 hI5 ⟨A6, c7, A8, c9, hf10, hf11, rfl, rfl⟩
  refine gl_pure 3 [3, 4, 5, 6, 25, 26] (K' := [(3, .int .i64 a3), (4, .int .i64 a4), (5, .slice A5_0 a5.length n5_0), (6, .slice A6_0 a6.length n6_0), (25, .agg #[.string y1.1.f0, .string y1.1.f1, .int .i64 y1.1.f2, .slice A6 y1.1.f3.length c7, .slice A8 y1.1.f4.length c9]), (26, .bool y1.2)]) (by kernel_rfl) ?_
  refine gl_alloc (T' := 24) (cs := #[.string (⟨#[]⟩ : ByteArray), .string (⟨#[]⟩ : ByteArray), .int .i64 0, .slice none 0 0, .slice none 0 0]) (by kernel_rfl) (by kernel_rfl) (by kernel_rfl) (fun g12 => ?_)
  refine gl_storeB (T' := 24) (xp := (.tmp 16)) (xv := (.tmp 25)) (v := .agg #[.string y1.1.f0, .string y1.1.f1, .int .i64 y1.1.f2, .slice A6 y1.1.f3.length c7, .slice A8 y1.1.f4.length c9]) (g := g12) (off := 0) (cs := #[.string (⟨#[]⟩ : ByteArray), .string (⟨#[]⟩ : ByteArray), .int .i64 0, .slice none 0 0, .slice none 0 0]) (cs' := #[.string y1.1.f0, .string y1.1.f1, .int .i64 y1.1.f2, .slice A6 y1.1.f3.length c7, .slice A8 y1.1.f4.length c9]) (by kernel_rfl) (by kernel_rfl) (by kernel_rfl) (by kernel_rfl) (by kernel_rfl) (Upd.set _ _ _ _) ?_ (by kernel_rfl)
  refine gl_pure 1 [3, 4, 5, 6, 16, 17] (K' := [(3, .int .i64 a3), (4, .int .i64 a4), (5, .slice A5_0 a5.length n5_0), (6, .slice A6_0 a6.length n6_0), (16, .pointer (some ⟨g12, 0, none⟩)), (17, .bool y1.2)]) (by kernel_rfl) ?_
  refine gl_atE (by kernel_rfl) ?_
  refine ge_seq ?_
  refine gk_seq (by kernel_rfl) ?_
  refine gk_region (by kernel_rfl) ?_
  refine gl_loadB (T' := 24) (xp := (.tmp 16)) (v := .agg #[.string y1.1.f0, .string y1.1.f1, .int .i64 y1.1.f2, .slice A6 y1.1.f3.length c7, .slice A8 y1.1.f4.length c9]) (g := g12) (off := 0) (cs := #[.string y1.1.f0, .string y1.1.f1, .int .i64 y1.1.f2, .slice A6 y1.1.f3.length c7, .slice A8 y1.1.f4.length c9]) (e := 24) (fz := (0, 0)) (by kernel_rfl) (by kernel_rfl) (by kernel_rfl) List.mem_cons_self (by kernel_rfl) ?_
  refine gl_pure 5 [27, 28, 29, 30, 31, 32] (K' := [(27, .agg #[.string y1.1.f0, .string y1.1.f1, .int .i64 y1.1.f2, .slice A6 y1.1.f3.length c7, .slice A8 y1.1.f4.length c9]), (28, .bool y1.2), (29, .int .i64 a3), (30, .int .i64 a4), (31, .slice A5_0 a5.length n5_0), (32, .slice A6_0 a6.length n6_0)]) (by kernel_rfl) ?_
  obtain ⟨y13, hx14, hr⟩ := bind_some hr
  refine gl_callQ (by kernel_rfl) (nflog_Needs_walk (r := y13) (hG.mono hI5) hf10 hf11 (hf5_0.mono hI5) (hf6_0.mono hI5) hx14 _) ?_
  refine gl_pure 4 [14, 15] (K' := [(14, .bool y13.1), (15, .int .i64 y13.2)]) (by kernel_rfl) ?_
  refine gl_atE (by kernel_rfl) ?_
  refine ge_seq ?_
  refine gk_reord (D := (g0, .cells #[.slice A0_0 a0.f0.f0.length c0_0] T0) :: (C0_0 ++ L)) (Reord.step1 (Upd.one _ (Upd.rm1 _ _)) (Reord.step (Upd.one _ (Upd.rmC _ _)) (Reord.skip (Reord.refl _)))) ?_
  refine gk_ret (by kernel_rfl) ?_
  obtain rfl := some_inj hr
  exact ge_result trivial (ResOk.tmp (by kernel_rfl) (ResOk.tmp (by kernel_rfl) ResOk.nil)) hI5 ⟨rfl, rfl⟩
/-! 44 slices_DeleteFunc_f44 ('own', 'imm') -/
noncomputable def slices_DeleteFunc_f44_l28 (a1 : S76 → Option Bool) : ((List S76) × Int × Int) → Option (((List S76) × Int × Int) ⊕ ((List S76) × Int)) := fun s13 =>
  bif (decide (s13.2.2 < (s13.1.length : Int))) then
  (Option.bind (ix s13.1 s13.2.2) fun (x31 : S76) =>
    Option.bind (a1 x31) fun (y48 : Bool) =>
    Option.bind (bif (!y48) then
      (Option.bind (ix s13.1 s13.2.1) fun (x58 : S76) =>
        some ((lset s13.1 s13.2.1 x31), (IntKind.wrap .i64 (s13.2.1 + 1))))
      else
      (some (s13.1, s13.2.1))) fun (j49 : (List S76) × Int) =>
    some (Sum.inl (j49.1, j49.2, (IntKind.wrap .i64 (s13.2.2 + 1)))))
  else
  (some (Sum.inr (s13.1, s13.2.1)))
noncomputable def slices_DeleteFunc_f44 (a0 : List S76) (a1 : S76 → Option Bool) : Option (List S76) :=
  Option.bind (slices_IndexFunc a0 a1) fun (y1 : Int) =>
  bif (y1 == (-1)) then
  (some a0)
  else
  (Option.bind (loopO (slices_DeleteFunc_f44_l28 a1) (a0, y1, (IntKind.wrap .i64 (y1 + 1)))) fun (r11 : (List S76) × Int) =>
    Option.bind (lx r11.1 r11.2 (r11.1.length : Int)) fun (l77 : List S76) =>
    Option.bind (clrv r11.1 r11.2 l77.length ((⟨(⟨(⟨#[]⟩ : ByteArray), (⟨#[]⟩ : ByteArray)⟩ : S59), (⟨(⟨#[]⟩ : ByteArray), (⟨#[]⟩ : ByteArray), 0, [], []⟩ : S23)⟩ : S76) : S76)) fun (zs80 : List S76) =>
    Option.bind (lx zs80 0 r11.2) fun (l86 : List S76) =>
    some l86)
theorem slices_DeleteFunc_f44_walk {a0 : List S76} {A0 : Option Addr} {c0 : Nat} {C0 : Own} {a1 : S76 → Option Bool} {fv1 : Value} {I : Imm} {r : (List S76)} (hO0 : OwnS kS76 77 I A0 c0 a0 C0) (hf1 : Fn86 I fv1 a1) (hr : slices_DeleteFunc_f44 a0 a1 = some r) (L : Own) :
    CallsTo Tryd.prog 44 #[.slice A0 a0.length c0, fv1] I (C0 ++ L) (fun v I' L' => ∃ A0 c0 C0, OwnS kS76 77 I' A0 c0 r C0 ∧ v = .slice A0 r.length c0 ∧ C0 ++ L = L') := by
  unfold slices_DeleteFunc_f44 at hr
  refine callsTo_body (N := 42) Tryd.func44 (by kernel_rfl) (by kernel_rfl) (by kernel_rfl) ?_
  refine gk_pick [0, 1] (K' := [(0, .slice A0 a0.length c0), (1, fv1)]) (by kernel_rfl) ?_
  refine gk_seq (by kernel_rfl) ?_
  refine gk_region (by kernel_rfl) ?_
  refine gl_pure 1 [0, 1] (K' := [(0, .slice A0 a0.length c0), (1, fv1)]) (by kernel_rfl) ?_
  refine gl_atE (by kernel_rfl) ?_
  refine ge_seq ?_
  refine gk_seq (by kernel_rfl) ?_
  refine gk_region (by kernel_rfl) ?_
  refine gl_pure 2 [0, 1, 8, 9] (K' := [(0, .slice A0 a0.length c0), (1, fv1), (8, .slice A0 a0.length c0), (9, fv1)]) (by kernel_rfl) ?_
  obtain ⟨y1, hx2, hr⟩ := bind_some hr
  refine gl_callB (r := .int .i64 y1) (Tk.step (Upd.rmC _ _) (Tk.nil _)) (by kernel_rfl) (fun J hJ hC => slices_IndexFunc_walk (r := y1) (OwnS.rest hO0 hJ hC.left) (hf1.mono hJ) hx2 _) ?_
  refine gl_pure 1 [0, 1, 5] (K' := [(0, .slice A0 a0.length c0), (1, fv1), (5, .int .i64 y1)]) (by kernel_rfl) ?_
  refine gl_atE (by kernel_rfl) ?_
  refine ge_seq ?_
  refine gk_seq (by kernel_rfl) ?_
  refine gk_seq (by kernel_rfl) ?_
  refine gk_region (by kernel_rfl) ?_
  refine gl_pure 2 [0, 1, 5, 12] (K' := [(0, .slice A0 a0.length c0), (1, fv1), (5, .int .i64 y1), (12, .bool (y1 == (-1)))]) (by kernel_rfl) ?_
  refine gl_atE (by kernel_rfl) ?_
  refine ge_seq ?_
  refine gk_cond (b := (y1 == (-1))) (by kernel_rfl) (by kernel_rfl) (fun hc3 => ?_) (fun hc3 => ?_)
  · have hr := cond_t hc3 hr
    refine gk_seq (by kernel_rfl) ?_
    refine gk_region (by kernel_rfl) ?_
    refine gl_pure 2 [4] (K' := [(4, .slice A0 a0.length c0)]) (by kernel_rfl) ?_
    refine gl_atE (by kernel_rfl) ?_
    refine ge_seq ?_
    refine gk_ret (by kernel_rfl) ?_
    refine ge_seq_ret ?_
    obtain rfl := some_inj hr
    exact ge_result trivial (ResOk.tmp (by kernel_rfl) ResOk.nil) (Imm.refl _) ⟨A0, c0, C0, hO0, rfl, rfl⟩
  · have hr := cond_f hc3 hr
    refine gk_skip (by kernel_rfl) ?_
    refine ge_seq ?_
    refine gk_seq (by kernel_rfl) ?_
    refine gk_seq (by kernel_rfl) ?_
    refine gk_region (by kernel_rfl) ?_
    refine gl_pure 3 [0, 1, 5, 6] (K' := [(0, .slice A0 a0.length c0), (1, fv1), (5, .int .i64 y1), (6, .int .i64 (IntKind.wrap .i64 (y1 + 1)))]) (by kernel_rfl) ?_
    refine gl_atE (by kernel_rfl) ?_
    refine ge_seq ?_
    obtain ⟨r11, hl12, hr⟩ := bind_some hr
    refine gk_join (fun t I' L' => ∃ C23, OwnS kS76 77 I' A0 c0 r11.1 C23 ∧ I ≤ I' ∧ C23 ++ L = L' ∧ Knows 42 [(0, .slice A0 r11.1.length c0), (5, .int .i64 r11.2)] t) ?_ ?_
    · refine gk_block (by kernel_rfl) ?_
      refine gk_pick [0, 1, 5, 6] (K' := [(0, .slice A0 a0.length c0), (1, fv1), (5, .int .i64 y1), (6, .int .i64 (IntKind.wrap .i64 (y1 + 1)))]) (by kernel_rfl) ?_
      intro t hK
      refine gc_loop (slices_DeleteFunc_f44_l28 a1) (fun s13 t I' L' => ∃ C17, OwnS kS76 77 I' A0 c0 s13.1 C17 ∧ I ≤ I' ∧ C17 ++ L = L' ∧ Knows 42 [(0, .slice A0 s13.1.length c0), (1, fv1), (5, .int .i64 s13.2.1), (6, .int .i64 s13.2.2)] t) (by kernel_rfl) ?_ hl12 ⟨C0, hO0, (Imm.refl _), rfl, hK⟩
      rintro s13 o14 t I21 L' hb15 ⟨C17, hO18, hI16, rfl, hK20⟩
      unfold slices_DeleteFunc_f44_l28 at hb15
      refine gk_at hK20 ?_
      refine gk_seq (by kernel_rfl) ?_
      refine gk_seq (by kernel_rfl) ?_
      refine gk_region (by kernel_rfl) ?_
      refine gl_pure 4 [0, 1, 5, 6, 19] (K' := [(0, .slice A0 s13.1.length c0), (1, fv1), (5, .int .i64 s13.2.1), (6, .int .i64 s13.2.2), (19, .bool (decide (s13.2.2 < (s13.1.length : Int))))]) (by kernel_rfl) ?_
      refine gl_atE (by kernel_rfl) ?_
      refine ge_seq ?_
      refine gk_cond (b := (decide (s13.2.2 < (s13.1.length : Int)))) (by kernel_rfl) (by kernel_rfl) (fun hc30 => ?_) (fun hc30 => ?_)
      · have hb15 := cond_t hc30 hb15
        refine gk_skip (by kernel_rfl) ?_
        refine ge_seq ?_
        refine gk_seq (by kernel_rfl) ?_
        refine gk_block (by kernel_rfl) ?_
        refine gk_seq (by kernel_rfl) ?_
        refine gk_region (by kernel_rfl) ?_
        refine gl_pure 2 [0, 1, 5, 6, 22, 23] (K' := [(0, .slice A0 s13.1.length c0), (1, fv1), (5, .int .i64 s13.2.1), (6, .int .i64 s13.2.2), (22, .slice A0 s13.1.length c0), (23, .int .i64 s13.2.2)]) (by kernel_rfl) ?_
        obtain ⟨x31, hx32, hb15⟩ := bind_some hb15
        refine gl_indexAddrW (d := kS76) (c := c0) (T' := 42) (e := 77) (xs := (.tmp 22)) (xi := (.tmp 23)) (kd := .i64) hx32 hO18 (Upd.selfC _ _) (by kernel_rfl) (by kernel_rfl) (by kernel_rfl) (by kernel_rfl) (by kernel_rfl) (fun p33 cs34 hR35 hA36 hp45 => ?_)
        obtain ⟨A39, n40, A42, n43, hf41, hf44, rfl⟩ := kS76_open hR35
        refine gl_loadOA (T' := 77) (xp := (.tmp 24)) (p := p33) (cs := [.string x31.f0.f0, .string x31.f0.f1, .string x31.f1.f0, .string x31.f1.f1, .int .i64 x31.f1.f2, .slice A39 x31.f1.f3.length n40, .slice A42 x31.f1.f4.length n43]) (by kernel_rfl) (by kernel_rfl) (by kernel_rfl) (by kernel_rfl) (hA36.take 7) ?_
        refine gl_alloc (T' := 77) (cs := #[.string (⟨#[]⟩ : ByteArray), .string (⟨#[]⟩ : ByteArray), .string (⟨#[]⟩ : ByteArray), .string (⟨#[]⟩ : ByteArray), .int .i64 0, .slice none 0 0, .slice none 0 0]) (by kernel_rfl) (by kernel_rfl) (by kernel_rfl) (fun g46 => ?_)
        refine gl_storeB (T' := 77) (xp := (.tmp 7)) (xv := (.tmp 25)) (v := .agg #[.string x31.f0.f0, .string x31.f0.f1, .string x31.f1.f0, .string x31.f1.f1, .int .i64 x31.f1.f2, .slice A39 x31.f1.f3.length n40, .slice A42 x31.f1.f4.length n43]) (g := g46) (off := 0) (cs := #[.string (⟨#[]⟩ : ByteArray), .string (⟨#[]⟩ : ByteArray), .string (⟨#[]⟩ : ByteArray), .string (⟨#[]⟩ : ByteArray), .int .i64 0, .slice none 0 0, .slice none 0 0]) (cs' := #[.string x31.f0.f0, .string x31.f0.f1, .string x31.f1.f0, .string x31.f1.f1, .int .i64 x31.f1.f2, .slice A39 x31.f1.f3.length n40, .slice A42 x31.f1.f4.length n43]) (by kernel_rfl) (by kernel_rfl) (by kernel_rfl) (by kernel_rfl) (by kernel_rfl) (Upd.set _ _ _ _) ?_ (by kernel_rfl)
        refine gl_atE (by kernel_rfl) ?_
        refine ge_seq ?_
        refine gk_seq (by kernel_rfl) ?_
        refine gk_region (by kernel_rfl) ?_
        refine gl_pure 1 [0, 1, 5, 6, 7, 26] (K' := [(0, .slice A0 s13.1.length c0), (1, fv1), (5, .int .i64 s13.2.1), (6, .int .i64 s13.2.2), (7, .pointer (some ⟨g46, 0, none⟩)), (26, fv1)]) (by kernel_rfl) ?_
        refine gl_loadB (T' := 77) (xp := (.tmp 7)) (v := .agg #[.string x31.f0.f0, .string x31.f0.f1, .string x31.f1.f0, .string x31.f1.f1, .int .i64 x31.f1.f2, .slice A39 x31.f1.f3.length n40, .slice A42 x31.f1.f4.length n43]) (g := g46) (off := 0) (cs := #[.string x31.f0.f0, .string x31.f0.f1, .string x31.f1.f0, .string x31.f1.f1, .int .i64 x31.f1.f2, .slice A39 x31.f1.f3.length n40, .slice A42 x31.f1.f4.length n43]) (e := 77) (fz := (0, 0)) (by kernel_rfl) (by kernel_rfl) (by kernel_rfl) List.mem_cons_self (by kernel_rfl) ?_
        obtain ⟨y48, hx47, hb15⟩ := bind_some hb15
        refine gl_callvQ (by kernel_rfl) ((hf1.mono hI16).out _ (Imm.refl _) _ _ hx47 _ _ _ _ hf41 hf44 _) ?_
        refine gl_pure 1 [0, 1, 5, 6, 7, 29] (K' := [(0, .slice A0 s13.1.length c0), (1, fv1), (5, .int .i64 s13.2.1), (6, .int .i64 s13.2.2), (7, .pointer (some ⟨g46, 0, none⟩)), (29, .bool (!y48))]) (by kernel_rfl) ?_
        refine gl_atE (by kernel_rfl) ?_
        refine ge_seq ?_
        obtain ⟨j49, hj50, hb15⟩ := bind_some hb15
        refine gk_join (fun t I' L' => ∃ C52, OwnS kS76 77 I' A0 c0 j49.1 C52 ∧ I21 ≤ I' ∧ C52 ++ L = L' ∧ Knows 42 [(0, .slice A0 j49.1.length c0), (1, fv1), (5, .int .i64 j49.2), (6, .int .i64 s13.2.2)] t) ?_ ?_
        · refine gk_cond (b := (!y48)) (by kernel_rfl) (by kernel_rfl) (fun hc57 => ?_) (fun hc57 => ?_)
          · have hj50 := cond_t hc57 hj50
            refine gk_seq (by kernel_rfl) ?_
            refine gk_region (by kernel_rfl) ?_
            refine gl_pure 2 [0, 1, 5, 6, 7, 30, 31] (K' := [(0, .slice A0 s13.1.length c0), (1, fv1), (5, .int .i64 s13.2.1), (6, .int .i64 s13.2.2), (7, .pointer (some ⟨g46, 0, none⟩)), (30, .slice A0 s13.1.length c0), (31, .int .i64 s13.2.1)]) (by kernel_rfl) ?_
            refine gl_loadB (T' := 77) (xp := (.tmp 7)) (v := .agg #[.string x31.f0.f0, .string x31.f0.f1, .string x31.f1.f0, .string x31.f1.f1, .int .i64 x31.f1.f2, .slice A39 x31.f1.f3.length n40, .slice A42 x31.f1.f4.length n43]) (g := g46) (off := 0) (cs := #[.string x31.f0.f0, .string x31.f0.f1, .string x31.f1.f0, .string x31.f1.f1, .int .i64 x31.f1.f2, .slice A39 x31.f1.f3.length n40, .slice A42 x31.f1.f4.length n43]) (e := 77) (fz := (0, 0)) (by kernel_rfl) (by kernel_rfl) (by kernel_rfl) List.mem_cons_self (by kernel_rfl) ?_
            obtain ⟨x58, hx59, hj50⟩ := bind_some hj50
            refine gl_indexAddrW (d := kS76) (c := c0) (T' := 42) (e := 77) (xs := (.tmp 30)) (xi := (.tmp 31)) (kd := .i64) hx59 hO18 (Upd.one _ (Upd.selfC _ _)) (by kernel_rfl) (by kernel_rfl) (by kernel_rfl) (by kernel_rfl) (by kernel_rfl) (fun p60 cs61 hR62 hA63 hp72 => ?_)
            obtain ⟨A66, n67, A69, n70, hf68, hf71, rfl⟩ := kS76_open hR62
            have hl75 : s13.1.length = (lset s13.1 s13.2.1 x31).length := by simp [lset]
            refine gl_storeE (d := kS76) (T' := 77) (xp := (.tmp 33)) (xv := (.tmp 32)) (v := .agg #[.string x31.f0.f0, .string x31.f0.f1, .string x31.f1.f0, .string x31.f1.f1, .int .i64 x31.f1.f2, .slice A39 x31.f1.f3.length n40, .slice A42 x31.f1.f4.length n43]) (off := 0) (y := x31) (fun X => (g46, .cells #[.string x31.f0.f0, .string x31.f0.f1, .string x31.f1.f0, .string x31.f1.f1, .int .i64 x31.f1.f2, .slice A39 x31.f1.f3.length n40, .slice A42 x31.f1.f4.length n43] 77) :: (X ++ L)) hx59 hO18 (fun X => (Upd.one _ (Upd.head _ X _))) hp72 (by kernel_rfl) (by kernel_rfl) (by kernel_rfl) (by kernel_rfl) (by kernel_rfl) (by kernel_rfl) (fun cs h => by obtain ⟨A_5, c_5, A_6, c_6, h_5, h_6, rfl⟩ := kS76_open h; exact kS76_mk (x := x31) hf41 hf44) (by kernel_rfl) (fun C73 hO74 => ?_)
            try rw [hl75]
            refine gl_atE (by kernel_rfl) ?_
            refine ge_seq ?_
            refine gk_region (by kernel_rfl) ?_
            refine gl_pure 3 [0, 1, 5, 6] (K' := [(0, .slice A0 (lset s13.1 s13.2.1 x31).length c0), (1, fv1), (5, .int .i64 (IntKind.wrap .i64 (s13.2.1 + 1))), (6, .int .i64 s13.2.2)]) (by kernel_rfl) ?_
            refine gl_reord (D := C73 ++ L) (Reord.step (Upd.one _ (Upd.rmC _ _)) (Reord.skip (Reord.refl _))) ?_
            refine gl_atE (by kernel_rfl) ?_
            obtain rfl := some_inj hj50
            exact ge_mid fun t ht => ⟨C73, hO74, (Imm.refl _), rfl, ht.pick (l := [0, 1, 5, 6]) (by kernel_rfl)⟩
          · have hj50 := cond_f hc57 hj50
            refine gk_reord (D := C17 ++ L) (Reord.step (Upd.one _ (Upd.rmC _ _)) (Reord.skip (Reord.refl _))) ?_
            refine gk_skip (by kernel_rfl) ?_
            obtain rfl := some_inj hj50
            exact ge_mid fun t ht => ⟨C17, hO18, (Imm.refl _), rfl, ht.pick (l := [0, 1, 5, 6]) (by kernel_rfl)⟩
        · rintro t I56 L' ⟨C52, hO53, hI51, rfl, hK55⟩
          refine ge_at hK55 ?_
          refine ge_block_normal ?_
          refine ge_seq ?_
          refine gk_region (by kernel_rfl) ?_
          refine gl_pure 3 [0, 1, 5, 6] (K' := [(0, .slice A0 j49.1.length c0), (1, fv1), (5, .int .i64 j49.2), (6, .int .i64 (IntKind.wrap .i64 (s13.2.2 + 1)))]) (by kernel_rfl) ?_
          refine gl_atE (by kernel_rfl) ?_
          obtain rfl := some_inj hb15
          exact ge_round fun t ht => ⟨C52, hO53, (Imm.trans hI16 hI51), rfl, ht.pick (l := [0, 1, 5, 6]) (by kernel_rfl)⟩
      · have hb15 := cond_f hc30 hb15
        refine gk_exit (by kernel_rfl) ?_
        refine ge_seq_exit ?_
        obtain rfl := some_inj hb15
        refine ge_round_out (fun hrr => ?_) (by intro h; cases h)
        obtain rfl := hrr
        refine ge_block_hit (by kernel_rfl) ?_
        exact ge_mid fun t ht => ⟨C17, hO18, hI16, rfl, ht.pick (l := [0, 5]) (by kernel_rfl)⟩
    · rintro t I27 L' ⟨C23, hO24, hI22, rfl, hK26⟩
      refine ge_at hK26 ?_
      refine ge_seq ?_
      refine gk_seq (by kernel_rfl) ?_
      refine gk_region (by kernel_rfl) ?_
      refine gl_pure 2 [0, 5, 36, 37] (K' := [(0, .slice A0 r11.1.length c0), (5, .int .i64 r11.2), (36, .slice A0 r11.1.length c0), (37, .int .i64 r11.2)]) (by kernel_rfl) ?_
      obtain ⟨l77, hx76, hr⟩ := bind_some hr
      have hlc78 := OwnS.lenc hO24
      have hV79 := OwnS.view hx76 hO24
      refine gl_sliceT (A := A0) (c := c0) (n := 7) (T' := 42) (e := 77) (xs := (.tmp 36)) (lo := (some (.tmp 37))) hx76 hlc78 (by kernel_rfl) (by kernel_rfl) (by kernel_rfl) (by kernel_rfl) (by kernel_rfl) ?_
      obtain ⟨zs80, hz81, hr⟩ := bind_some hr
      have hl84 : r11.1.length = zs80.length := (clrv_length hz81).symm
      refine gl_clearV (d := kS76) (c' := (c0 - (r11.2).toNat)) (t := 42) (e := 77) (x := (.tmp 38)) (zc := #[.string (⟨#[]⟩ : ByteArray), .string (⟨#[]⟩ : ByteArray), .string (⟨#[]⟩ : ByteArray), .string (⟨#[]⟩ : ByteArray), .int .i64 0, .slice none 0 0, .slice none 0 0]) (fun X => X ++ L) hz81 hV79 hO24 (fun X => (Upd.head _ X _)) (by kernel_rfl) (by kernel_rfl) (by kernel_rfl) (by kernel_rfl) (by kernel_rfl) (by kernel_rfl) (kS76_mk (x := (⟨(⟨(⟨#[]⟩ : ByteArray), (⟨#[]⟩ : ByteArray)⟩ : S59), (⟨(⟨#[]⟩ : ByteArray), (⟨#[]⟩ : ByteArray), 0, [], []⟩ : S23)⟩ : S76)) (RepS.nil _ _) (RepS.nil _ _)) (fun C82 hO83 => ?_)
      try rw [hl84]
      refine gl_atE (by kernel_rfl) ?_
      refine ge_seq ?_
      refine gk_seq (by kernel_rfl) ?_
      refine gk_region (by kernel_rfl) ?_
      refine gl_pure 2 [39, 40] (K' := [(39, .slice A0 zs80.length c0), (40, .int .i64 r11.2)]) (by kernel_rfl) ?_
      obtain ⟨l86, hx85, hr⟩ := bind_some hr
      have hlc87 := OwnS.lenc hO83
      have hd88 := lx_take hx85
      refine gl_sliceH (A := A0) (c := c0) (n := 7) (T' := 42) (e := 77) (xs := (.tmp 39)) (lo := none) (hi := (some (.tmp 40))) hx85 hlc87 (by kernel_rfl) (by kernel_rfl) (by kernel_rfl) (by kernel_rfl) (by kernel_rfl) (by kernel_rfl) ?_
      refine gl_pure 1 [4] (K' := [(4, .slice A0 l86.length c0)]) (by kernel_rfl) ?_
      refine gl_atE (by kernel_rfl) ?_
      refine ge_seq ?_
      refine gk_ret (by kernel_rfl) ?_
      obtain rfl := some_inj hr
      exact ge_result trivial (ResOk.tmp (by kernel_rfl) ResOk.nil) hI22 ⟨A0, c0, C82, (OwnS.head hd88 hO83), rfl, rfl⟩
/-! 45 nflog_Log_Sweep_1 ('imm', ('ptrR', 2), ('ptrR', 2)) -/
noncomputable def nflog_Log_Sweep_1 (a0 : S76) (a1 : Int) (a2 : Int) : Bool :=
  (decide (a0.f1.f2 ≤ (IntKind.wrap .i64 (a1 - a2))))
theorem nflog_Log_Sweep_1_walk {a0 : S76} {A0_5 : Option Addr} {n0_5 : Nat} {A0_6 : Option Addr} {n0_6 : Nat} {a1 : Int} {p1 : Addr} {a2 : Int} {p2 : Addr} {I : Imm} {r : Bool}  (hf0_5 : RepS (Kd.sl kS53) I A0_5 n0_5 a0.f1.f3) (hf0_6 : RepS (Kd.sl kS53) I A0_6 n0_6 a0.f1.f4) (hp1 : RunAt I p1 [.int .i64 a1]) (hp2 : RunAt I p2 [.int .i64 a2]) (hr : nflog_Log_Sweep_1 a0 a1 a2 = r) (L : Own) :
    CallsTo Tryd.prog 45 #[.agg #[.string a0.f0.f0, .string a0.f0.f1, .string a0.f1.f0, .string a0.f1.f1, .int .i64 a0.f1.f2, .slice A0_5 a0.f1.f3.length n0_5, .slice A0_6 a0.f1.f4.length n0_6], .pointer (some p1), .pointer (some p2)] I L (fun v I' L' => v = .bool r ∧ L = L') := by
  replace hr : some (nflog_Log_Sweep_1 a0 a1 a2) = some r := congrArg some hr
  unfold nflog_Log_Sweep_1 at hr
  refine callsTo_body (N := 12) Tryd.func45 (by kernel_rfl) (by kernel_rfl) (by kernel_rfl) ?_
  refine gk_pick [0, 1, 2] (K' := [(0, .agg #[.string a0.f0.f0, .string a0.f0.f1, .string a0.f1.f0, .string a0.f1.f1, .int .i64 a0.f1.f2, .slice A0_5 a0.f1.f3.length n0_5, .slice A0_6 a0.f1.f4.length n0_6]), (1, .pointer (some p1)), (2, .pointer (some p2))]) (by kernel_rfl) ?_
  refine gk_seq (by kernel_rfl) ?_
  refine gk_region (by kernel_rfl) ?_
  refine gl_box (T' := 77) (x := (.tmp 0)) (v := .agg #[.string a0.f0.f0, .string a0.f0.f1, .string a0.f1.f0, .string a0.f1.f1, .int .i64 a0.f1.f2, .slice A0_5 a0.f1.f3.length n0_5, .slice A0_6 a0.f1.f4.length n0_6]) (cs := #[.string a0.f0.f0, .string a0.f0.f1, .string a0.f1.f0, .string a0.f1.f1, .int .i64 a0.f1.f2, .slice A0_5 a0.f1.f3.length n0_5, .slice A0_6 a0.f1.f4.length n0_6]) (by kernel_rfl) (by kernel_rfl) (by kernel_rfl) (by kernel_rfl) (fun gb1 => ?_)
  refine gl_pure 1 [1, 2, 3] (K' := [(1, .pointer (some p1)), (2, .pointer (some p2)), (3, .pointer (some ⟨gb1, 0, none⟩))]) (by kernel_rfl) ?_
  refine gl_atE (by kernel_rfl) ?_
  refine ge_seq ?_
  refine gk_seq (by kernel_rfl) ?_
  refine gk_region (by kernel_rfl) ?_
  refine gl_pure 2 [1, 2, 6] (K' := [(1, .pointer (some p1)), (2, .pointer (some p2)), (6, .pointer (some ⟨gb1, 4, none⟩))]) (by kernel_rfl) ?_
  refine gl_loadB (T' := 2) (xp := (.tmp 6)) (v := .int .i64 a0.f1.f2) (g := gb1) (off := 4) (cs := #[.string a0.f0.f0, .string a0.f0.f1, .string a0.f1.f0, .string a0.f1.f1, .int .i64 a0.f1.f2, .slice A0_5 a0.f1.f3.length n0_5, .slice A0_6 a0.f1.f4.length n0_6]) (e := 77) (fz := (0, 0)) (by kernel_rfl) (by kernel_rfl) (by kernel_rfl) List.mem_cons_self (by kernel_rfl) ?_
  refine gl_load (T' := 2) (xp := (.tmp 1)) (p := p1) (c := .int .i64 a1) (n := 1) (by kernel_rfl) (by kernel_rfl) (by kernel_rfl) (by kernel_rfl) hp1 ?_
  refine gl_load (T' := 2) (xp := (.tmp 2)) (p := p2) (c := .int .i64 a2) (n := 1) (by kernel_rfl) (by kernel_rfl) (by kernel_rfl) (by kernel_rfl) hp2 ?_
  refine gl_pure 3 [4] (K' := [(4, .bool (decide (a0.f1.f2 ≤ (IntKind.wrap .i64 (a1 - a2)))))]) (by kernel_rfl) ?_
  refine gl_atE (by kernel_rfl) ?_
  refine ge_seq ?_
  refine gk_reord (D := L) (Reord.skip (Reord.refl _)) ?_
  refine gk_ret (by kernel_rfl) ?_
  obtain rfl := some_inj hr
  exact ge_result trivial (ResOk.tmp (by kernel_rfl) ResOk.nil) (Imm.refl _) ⟨rfl, rfl⟩
theorem nflog_Log_Sweep_1_impl86 {a1 : Int} {p1 : Addr} {a2 : Int} {p2 : Addr} {I : Imm} (hp1 : RunAt I p1 [.int .i64 a1]) (hp2 : RunAt I p2 [.int .i64 a2]) : Fn86 I (.func (.func 45) #[] #[.pointer (some p1), .pointer (some p2)]) (fun x0 => some (nflog_Log_Sweep_1 x0 a1 a2)) := ⟨fun I' hI x0 r hr A0_5 c0_5 A0_6 c0_6 h0_5 h0_6 L => ⟨45, #[], #[.pointer (some p1), .pointer (some p2)], rfl, ⟨_, Tryd.func45, by kernel_rfl, by kernel_rfl⟩, by
  simp only [List.append_toArray, List.nil_append, List.append_nil, Array.append_empty, Array.empty_append, List.push_append_toArray, List.cons_append]
  exact nflog_Log_Sweep_1_walk  h0_5 h0_6 (hp1.mono hI) (hp2.mono hI) (some_inj hr) L⟩⟩
/-! 26 nflog_Log_Sweep ('obj', 'imm', 'imm') -/
noncomputable def nflog_Log_Sweep (a0 : S45) (a1 : Int) (a2 : Int) : Option (Int × Int × S45) :=
  bif ((((decide (a1 < 0)) || (decide (a1 > 1125899906842624))) || (decide (a2 < 0))) || (decide (a2 > 1099511627776))) then
  (some (0, 1, a0))
  else
  (Option.bind (slices_DeleteFunc_f44 a0.f0.f0 (fun x0 => some (nflog_Log_Sweep_1 x0 a1 a2))) fun (y20 : (List S76)) =>
    some ((IntKind.wrap .i64 ((nflog_Log_Len a0) - (nflog_Log_Len (⟨(⟨y20⟩ : S43)⟩ : S45)))), 0, (⟨(⟨y20⟩ : S43)⟩ : S45)))
theorem nflog_Log_Sweep_walk {a0 : S45} {g0 : Nat} {T0 : TypeId} {A0_0 : Option Addr} {c0_0 : Nat} {C0_0 : Own} {a1 : Int} {a2 : Int} {I : Imm} {r : Int × Int × S45}  (hO0_0 : OwnS kS76 77 I A0_0 c0_0 a0.f0.f0 C0_0) (hr : nflog_Log_Sweep a0 a1 a2 = some r) (L : Own) :
    CallsTo Tryd.prog 26 #[.pointer (some ⟨g0, 0, none⟩), .int .i64 a1, .int .i64 a2] I ((g0, .cells #[.slice A0_0 a0.f0.f0.length c0_0] T0) :: (C0_0 ++ L)) (fun v I' L' => ∃ A2_0 c2_0 C2_0, OwnS kS76 77 I' A2_0 c2_0 r.2.2.f0.f0 C2_0 ∧ v = .tuple #[.int .i64 r.1, .int .i64 r.2.1] ∧ (g0, .cells #[.slice A2_0 r.2.2.f0.f0.length c2_0] T0) :: (C2_0 ++ L) = L') := by
  unfold nflog_Log_Sweep at hr
  refine callsTo_body (N := 44) Tryd.func26 (by kernel_rfl) (by kernel_rfl) (by kernel_rfl) ?_
  refine gk_pick [0, 1, 2] (K' := [(0, .pointer (some ⟨g0, 0, none⟩)), (1, .int .i64 a1), (2, .int .i64 a2)]) (by kernel_rfl) ?_
  refine gk_seq (by kernel_rfl) ?_
  refine gk_region (by kernel_rfl) ?_
  refine gl_box (T' := 2) (x := (.tmp 1)) (v := .int .i64 a1) (cs := #[.int .i64 a1]) (by kernel_rfl) (by kernel_rfl) (by kernel_rfl) (by kernel_rfl) (fun gb1 => ?_)
  refine gl_box (T' := 2) (x := (.tmp 2)) (v := .int .i64 a2) (cs := #[.int .i64 a2]) (by kernel_rfl) (by kernel_rfl) (by kernel_rfl) (by kernel_rfl) (fun gb2 => ?_)
  refine gl_pure 2 [0, 4, 5] (K' := [(0, .pointer (some ⟨g0, 0, none⟩)), (4, .pointer (some ⟨gb1, 0, none⟩)), (5, .pointer (some ⟨gb2, 0, none⟩))]) (by kernel_rfl) ?_
  refine gl_atE (by kernel_rfl) ?_
  refine ge_seq ?_
  refine gk_seq (by kernel_rfl) ?_
  refine gk_block (by kernel_rfl) ?_
  refine gk_seq (by kernel_rfl) ?_
  refine gk_region (by kernel_rfl) ?_
  refine gl_pure 3 [0, 4, 5, 9] (K' := [(0, .pointer (some ⟨g0, 0, none⟩)), (4, .pointer (some ⟨gb1, 0, none⟩)), (5, .pointer (some ⟨gb2, 0, none⟩)), (9, .bool false)]) (by kernel_rfl) ?_
  refine gl_atE (by kernel_rfl) ?_
  refine ge_seq ?_
  refine gk_cond (b := false) (by kernel_rfl) (by kernel_rfl) (fun h => by cases h) (fun _ => ?_)
  refine gk_seq (by kernel_rfl) ?_
  obtain ⟨b5, hb6⟩ : ∃ z, z = ((((decide (a1 < 0)) || (decide (a1 > 1125899906842624))) || (decide (a2 < 0))) || (decide (a2 > 1099511627776))) := ⟨_, rfl⟩
  refine gk_join (fun t I' L' => I ≤ I' ∧ (gb2, .cells #[.int .i64 a2] 2) :: ((gb1, .cells #[.int .i64 a1] 2) :: ((g0, .cells #[.slice A0_0 a0.f0.f0.length c0_0] T0) :: (C0_0 ++ L))) = L' ∧ Knows 44 [(0, .pointer (some ⟨g0, 0, none⟩)), (4, .pointer (some ⟨gb1, 0, none⟩)), (5, .pointer (some ⟨gb2, 0, none⟩)), (12, .bool b5)] t) ?_ ?_
  · refine gk_region (by kernel_rfl) ?_
    refine gl_loadB (T' := 2) (xp := (.tmp 4)) (v := .int .i64 a1) (g := gb1) (off := 0) (cs := #[.int .i64 a1]) (e := 2) (fz := (0, 0)) (by kernel_rfl) (by kernel_rfl) (by kernel_rfl) (List.mem_cons_of_mem _ List.mem_cons_self) (by kernel_rfl) ?_
    refine gl_pure 2 [0, 4, 5, 15] (K' := [(0, .pointer (some ⟨g0, 0, none⟩)), (4, .pointer (some ⟨gb1, 0, none⟩)), (5, .pointer (some ⟨gb2, 0, none⟩)), (15, .bool (decide (a1 < 0)))]) (by kernel_rfl) ?_
    refine gl_case 15 (b := (decide (a1 < 0))) (by kernel_rfl) (fun hc8 => ?_) (fun hc8 => ?_)
    · refine gl_pure 12 [0, 4, 5, 12] (K' := [(0, .pointer (some ⟨g0, 0, none⟩)), (4, .pointer (some ⟨gb1, 0, none⟩)), (5, .pointer (some ⟨gb2, 0, none⟩)), (12, .bool true)]) (by kernel_rfl) ?_
      refine gl_atE (by kernel_rfl) ?_
      exact ge_mid fun t ht => ⟨(Imm.refl _), rfl, by rw [(show b5 = true from hb6.trans (by first | (rw [hc8]; done) | (rw [hc8]; rfl) | (simp [hc8]; done) | (simp only [hc8]; rfl) | (simp at *; omega)))]; exact ht.pick (l := [0, 4, 5, 12]) (by kernel_rfl)⟩
    · refine gl_loadB (T' := 2) (xp := (.tmp 4)) (v := .int .i64 a1) (g := gb1) (off := 0) (cs := #[.int .i64 a1]) (e := 2) (fz := (0, 0)) (by kernel_rfl) (by kernel_rfl) (by kernel_rfl) (List.mem_cons_of_mem _ List.mem_cons_self) (by kernel_rfl) ?_
      refine gl_pure 3 [0, 4, 5, 19] (K' := [(0, .pointer (some ⟨g0, 0, none⟩)), (4, .pointer (some ⟨gb1, 0, none⟩)), (5, .pointer (some ⟨gb2, 0, none⟩)), (19, .bool (decide (a1 > 1125899906842624)))]) (by kernel_rfl) ?_
      refine gl_case 19 (b := (decide (a1 > 1125899906842624))) (by kernel_rfl) (fun hc9 => ?_) (fun hc9 => ?_)
      · refine gl_pure 8 [0, 4, 5, 12] (K' := [(0, .pointer (some ⟨g0, 0, none⟩)), (4, .pointer (some ⟨gb1, 0, none⟩)), (5, .pointer (some ⟨gb2, 0, none⟩)), (12, .bool true)]) (by kernel_rfl) ?_
        refine gl_atE (by kernel_rfl) ?_
        exact ge_mid fun t ht => ⟨(Imm.refl _), rfl, by rw [(show b5 = true from hb6.trans (by first | (rw [hc8, hc9]; done) | (rw [hc8, hc9]; rfl) | (simp [hc8, hc9]; done) | (simp only [hc8, hc9]; rfl) | (simp at *; omega)))]; exact ht.pick (l := [0, 4, 5, 12]) (by kernel_rfl)⟩
      · refine gl_loadB (T' := 2) (xp := (.tmp 5)) (v := .int .i64 a2) (g := gb2) (off := 0) (cs := #[.int .i64 a2]) (e := 2) (fz := (0, 0)) (by kernel_rfl) (by kernel_rfl) (by kernel_rfl) List.mem_cons_self (by kernel_rfl) ?_
        refine gl_pure 3 [0, 4, 5, 23] (K' := [(0, .pointer (some ⟨g0, 0, none⟩)), (4, .pointer (some ⟨gb1, 0, none⟩)), (5, .pointer (some ⟨gb2, 0, none⟩)), (23, .bool (decide (a2 < 0)))]) (by kernel_rfl) ?_
        refine gl_case 23 (b := (decide (a2 < 0))) (by kernel_rfl) (fun hc10 => ?_) (fun hc10 => ?_)
        · refine gl_pure 4 [0, 4, 5, 12] (K' := [(0, .pointer (some ⟨g0, 0, none⟩)), (4, .pointer (some ⟨gb1, 0, none⟩)), (5, .pointer (some ⟨gb2, 0, none⟩)), (12, .bool true)]) (by kernel_rfl) ?_
          refine gl_atE (by kernel_rfl) ?_
          exact ge_mid fun t ht => ⟨(Imm.refl _), rfl, by rw [(show b5 = true from hb6.trans (by first | (rw [hc8, hc9, hc10]; done) | (rw [hc8, hc9, hc10]; rfl) | (simp [hc8, hc9, hc10]; done) | (simp only [hc8, hc9, hc10]; rfl) | (simp at *; omega)))]; exact ht.pick (l := [0, 4, 5, 12]) (by kernel_rfl)⟩
        · refine gl_loadB (T' := 2) (xp := (.tmp 5)) (v := .int .i64 a2) (g := gb2) (off := 0) (cs := #[.int .i64 a2]) (e := 2) (fz := (0, 0)) (by kernel_rfl) (by kernel_rfl) (by kernel_rfl) List.mem_cons_self (by kernel_rfl) ?_
          refine gl_pure 3 [0, 4, 5, 12] (K' := [(0, .pointer (some ⟨g0, 0, none⟩)), (4, .pointer (some ⟨gb1, 0, none⟩)), (5, .pointer (some ⟨gb2, 0, none⟩)), (12, .bool (decide (a2 > 1099511627776)))]) (by kernel_rfl) ?_
          refine gl_atE (by kernel_rfl) ?_
          exact ge_mid fun t ht => ⟨(Imm.refl _), rfl, by rw [(show b5 = (decide (a2 > 1099511627776)) from hb6.trans (by first | (rw [hc8, hc9, hc10]; done) | (rw [hc8, hc9, hc10]; rfl) | (simp [hc8, hc9, hc10]; done) | (simp only [hc8, hc9, hc10]; rfl) | (simp at *; omega)))]; exact ht.pick (l := [0, 4, 5, 12]) (by kernel_rfl)⟩
  · rintro t I7 L' ⟨hI3, rfl, hK4⟩
    subst hb6
    refine ge_at hK4 ?_
    refine ge_seq ?_
    refine gk_cond (b := ((((decide (a1 < 0)) || (decide (a1 > 1125899906842624))) || (decide (a2 < 0))) || (decide (a2 > 1099511627776)))) (by kernel_rfl) (by kernel_rfl) (fun hc11 => ?_) (fun hc11 => ?_)
    · have hr := cond_t hc11 hr
      refine gk_seq (by kernel_rfl) ?_
      refine gk_region (by kernel_rfl) ?_
      refine gl_pure 2 [6, 7] (K' := [(6, .int .i64 0), (7, .int .i64 1)]) (by kernel_rfl) ?_
      refine gl_atE (by kernel_rfl) ?_
      refine ge_seq ?_
      refine gk_reord (D := (g0, .cells #[.slice A0_0 a0.f0.f0.length c0_0] T0) :: (C0_0 ++ L)) (Reord.step1 (Upd.one _ (Upd.one _ (Upd.rm1 _ _))) (Reord.step (Upd.one _ (Upd.one _ (Upd.rmC _ _))) (Reord.skip (Reord.skip (Reord.refl _))))) ?_
      refine gk_ret (by kernel_rfl) ?_
      refine ge_block_ret ?_
      refine ge_seq_ret ?_
      obtain rfl := some_inj hr
      exact ge_result trivial (ResOk.tmp (by kernel_rfl) (ResOk.tmp (by kernel_rfl) ResOk.nil)) hI3 ⟨A0_0, c0_0, C0_0, (hO0_0.mono hI3), rfl, rfl⟩
    · have hr := cond_f hc11 hr
      refine gk_skip (by kernel_rfl) ?_
      refine ge_block_normal ?_
      refine ge_seq ?_
      refine gk_seq (by kernel_rfl) ?_
      refine gk_region (by kernel_rfl) ?_
      refine gl_pure 1 [0, 4, 5, 27] (K' := [(0, .pointer (some ⟨g0, 0, none⟩)), (4, .pointer (some ⟨gb1, 0, none⟩)), (5, .pointer (some ⟨gb2, 0, none⟩)), (27, .pointer (some ⟨g0, 0, none⟩))]) (by kernel_rfl) ?_
      refine gl_reord (D := (g0, .cells #[.slice A0_0 a0.f0.f0.length c0_0] T0) :: (C0_0 ++ ((gb2, .cells #[.int .i64 a2] 2) :: ((gb1, .cells #[.int .i64 a1] 2) :: L)))) (Reord.step1 (Upd.one _ (Upd.one _ (Upd.rm1 _ _))) (Reord.step (Upd.one _ (Upd.one _ (Upd.rmC _ _))) (Reord.step1 (Upd.rm1 _ _) (Reord.step1 (Upd.rm1 _ _) (Reord.refl _))))) ?_
      refine gl_call (by kernel_rfl) (nflog_Log_Len_walk (r := (nflog_Log_Len a0)) (g0 := g0) (T0 := T0) (A0_0 := A0_0) (c0_0 := c0_0) (C0_0 := C0_0) (a0 := a0) (hO0_0.mono hI3) rfl _) ?_
      rintro v I12 L13 hI14 ⟨rfl, rfl⟩
      refine gl_pure 1 [0, 4, 5, 8] (K' := [(0, .pointer (some ⟨g0, 0, none⟩)), (4, .pointer (some ⟨gb1, 0, none⟩)), (5, .pointer (some ⟨gb2, 0, none⟩)), (8, .int .i64 (nflog_Log_Len a0))]) (by kernel_rfl) ?_
      refine gl_atE (by kernel_rfl) ?_
      refine ge_seq ?_
      refine gk_seq (by kernel_rfl) ?_
      refine gk_region (by kernel_rfl) ?_
      refine gl_pure 5 [0, 4, 5, 8, 29, 33] (K' := [(0, .pointer (some ⟨g0, 0, none⟩)), (4, .pointer (some ⟨gb1, 0, none⟩)), (5, .pointer (some ⟨gb2, 0, none⟩)), (8, .int .i64 (nflog_Log_Len a0)), (29, .pointer (some ⟨g0, 0, none⟩)), (33, .pointer (some ⟨g0, 0, none⟩))]) (by kernel_rfl) ?_
      refine gl_loadB (T' := 42) (xp := (.tmp 33)) (v := .slice A0_0 a0.f0.f0.length c0_0) (g := g0) (off := 0) (cs := #[.slice A0_0 a0.f0.f0.length c0_0]) (e := T0) (fz := (0, 0)) (by kernel_rfl) (by kernel_rfl) (by kernel_rfl) List.mem_cons_self (by kernel_rfl) ?_
      refine gl_pure 1 [0, 8, 29, 34, 35] (K' := [(0, .pointer (some ⟨g0, 0, none⟩)), (8, .int .i64 (nflog_Log_Len a0)), (29, .pointer (some ⟨g0, 0, none⟩)), (34, .slice A0_0 a0.f0.f0.length c0_0), (35, .func (.func 45) #[] #[.pointer (some ⟨gb1, 0, none⟩), .pointer (some ⟨gb2, 0, none⟩)])]) (by kernel_rfl) ?_
      refine gl_rest (Tk.step (Upd.one _ (Upd.app _ (Upd.rm1 _ _))) (Tk.step (Upd.one _ (Upd.app _ (Upd.rm1 _ _))) (Tk.nil _))) (fun J15 hJ16 hC17 => ?_)
      have hf18 := hC17.left.blk
      have hf19 := hC17.right.left.blk
      obtain ⟨y20, hx21, hr⟩ := bind_some hr
      refine gl_reord (D := C0_0 ++ ((g0, .cells #[.slice A0_0 a0.f0.f0.length c0_0] T0) :: L)) (Reord.step (Upd.one _ (Upd.rmC _ _)) (Reord.step1 (Upd.rm1 _ _) (Reord.refl _))) ?_
      refine gl_call (by kernel_rfl) (slices_DeleteFunc_f44_walk (r := y20) (A0 := A0_0) (c0 := c0_0) (C0 := C0_0) (a0 := a0.f0.f0) (hO0_0.mono (Imm.trans (Imm.trans hI3 hI14) hJ16)) (nflog_Log_Sweep_1_impl86 hf19 hf18) hx21 _) ?_
      rintro v I22 L23 hI24 ⟨A25, c26, C27, hO28, rfl, rfl⟩
      refine gl_pure 3 [0, 8, 36, 39] (K' := [(0, .pointer (some ⟨g0, 0, none⟩)), (8, .int .i64 (nflog_Log_Len a0)), (36, .slice A25 y20.length c26), (39, .pointer (some ⟨g0, 0, none⟩))]) (by kernel_rfl) ?_
      refine gl_storeB (T' := 42) (xp := (.tmp 39)) (xv := (.tmp 36)) (v := .slice A25 y20.length c26) (g := g0) (off := 0) (cs := #[.slice A0_0 a0.f0.f0.length c0_0]) (cs' := #[.slice A25 y20.length c26]) (by kernel_rfl) (by kernel_rfl) (by kernel_rfl) (by kernel_rfl) (by kernel_rfl) (Upd.app _ (Upd.set _ _ _ _)) ?_ (by kernel_rfl)
      refine gl_atE (by kernel_rfl) ?_
      refine ge_seq ?_
      refine gk_seq (by kernel_rfl) ?_
      refine gk_region (by kernel_rfl) ?_
      refine gl_pure 2 [40, 41] (K' := [(40, .int .i64 (nflog_Log_Len a0)), (41, .pointer (some ⟨g0, 0, none⟩))]) (by kernel_rfl) ?_
      refine gl_reord (D := (g0, .cells #[.slice A25 y20.length c26] T0) :: (C27 ++ L)) (Reord.step1 (Upd.app _ (Upd.rm1 _ _)) (Reord.step (Upd.rmC _ _) (Reord.refl _))) ?_
      refine gl_call (by kernel_rfl) (nflog_Log_Len_walk (r := (nflog_Log_Len (⟨(⟨y20⟩ : S43)⟩ : S45))) (g0 := g0) (T0 := T0) (A0_0 := A25) (c0_0 := c26) (C0_0 := C27) (a0 := (⟨(⟨y20⟩ : S43)⟩ : S45)) hO28 rfl _) ?_
      rintro v I29 L30 hI31 ⟨rfl, rfl⟩
      refine gl_pure 3 [6, 7] (K' := [(6, .int .i64 (IntKind.wrap .i64 ((nflog_Log_Len a0) - (nflog_Log_Len (⟨(⟨y20⟩ : S43)⟩ : S45))))), (7, .int .i64 0)]) (by kernel_rfl) ?_
      refine gl_atE (by kernel_rfl) ?_
      refine ge_seq ?_
      refine gk_ret (by kernel_rfl) ?_
      obtain rfl := some_inj hr
      exact ge_result trivial (ResOk.tmp (by kernel_rfl) (ResOk.tmp (by kernel_rfl) ResOk.nil)) (Imm.trans (Imm.trans (Imm.trans (Imm.trans hI3 hI14) hJ16) hI24) hI31) ⟨A25, c26, C27, (hO28.mono hI31), rfl, rfl⟩
/-! 27 tocsinref26_Log_Sweep ('obj', 'imm', 'imm') -/
noncomputable def tocsinref26_Log_Sweep_l36 (a0 : S30) (a1 : Int) (a2 : Int) : ((List S23) × Int) → Option (((List S23) × Int) ⊕ ((List S23))) := fun s19 =>
  bif (decide (s19.2 < (a0.f0.length : Int))) then
  (Option.bind (ix a0.f0 s19.2) fun (x39 : S23) =>
    Option.bind (bif (decide (x39.f2 > (IntKind.wrap .i64 (a1 - a2)))) then
      (Option.bind (app s19.1 [x39]) fun (zs69 : List S23) =>
        some zs69)
      else
      (some s19.1)) fun (j55 : (List S23)) =>
    some (Sum.inl (j55, (IntKind.wrap .i64 (s19.2 + 1)))))
  else
  (some (Sum.inr s19.1))
noncomputable def tocsinref26_Log_Sweep (a0 : S30) (a1 : Int) (a2 : Int) : Option (Int × Int × S30) :=
  bif (((!(tocsinref26_time a1)) || (decide (a2 < 0))) || (decide (a2 > 1099511627776))) then
  (some (0, 1, a0))
  else
  (Option.bind (loopO (tocsinref26_Log_Sweep_l36 a0 a1 a2) ([], 0)) fun (r17 : (List S23)) =>
    some ((IntKind.wrap .i64 ((a0.f0.length : Int) - (r17.length : Int))), 0, (⟨r17⟩ : S30)))
theorem tocsinref26_Log_Sweep_walk {a0 : S30} {g0 : Nat} {T0 : TypeId} {A0_0 : Option Addr} {c0_0 : Nat} {C0_0 : Own} {a1 : Int} {a2 : Int} {I : Imm} {r : Int × Int × S30}  (hO0_0 : OwnS kS23 24 I A0_0 c0_0 a0.f0 C0_0) (hr : tocsinref26_Log_Sweep a0 a1 a2 = some r) (L : Own) :
    CallsTo Tryd.prog 27 #[.pointer (some ⟨g0, 0, none⟩), .int .i64 a1, .int .i64 a2] I ((g0, .cells #[.slice A0_0 a0.f0.length c0_0] T0) :: (C0_0 ++ L)) (fun v I' L' => ∃ A2_0 c2_0 C2_0, OwnS kS23 24 I' A2_0 c2_0 r.2.2.f0 C2_0 ∧ v = .tuple #[.int .i64 r.1, .int .i64 r.2.1] ∧ (g0, .cells #[.slice A2_0 r.2.2.f0.length c2_0] T0) :: (C2_0 ++ L) = L') := by
  unfold tocsinref26_Log_Sweep at hr
  refine callsTo_body (N := 56) Tryd.func27 (by kernel_rfl) (by kernel_rfl) (by kernel_rfl) ?_
  refine gk_pick [0, 1, 2] (K' := [(0, .pointer (some ⟨g0, 0, none⟩)), (1, .int .i64 a1), (2, .int .i64 a2)]) (by kernel_rfl) ?_
  refine gk_seq (by kernel_rfl) ?_
  refine gk_region (by kernel_rfl) ?_
  refine gl_pure 2 [0, 1, 2] (K' := [(0, .pointer (some ⟨g0, 0, none⟩)), (1, .int .i64 a1), (2, .int .i64 a2)]) (by kernel_rfl) ?_
  refine gl_atE (by kernel_rfl) ?_
  refine ge_seq ?_
  refine gk_seq (by kernel_rfl) ?_
  refine gk_seq (by kernel_rfl) ?_
  obtain ⟨b3, hb4⟩ : ∃ z, z = (((!(tocsinref26_time a1)) || (decide (a2 < 0))) || (decide (a2 > 1099511627776))) := ⟨_, rfl⟩
  refine gk_join (fun t I' L' => I ≤ I' ∧ (g0, .cells #[.slice A0_0 a0.f0.length c0_0] T0) :: (C0_0 ++ L) = L' ∧ Knows 56 [(0, .pointer (some ⟨g0, 0, none⟩)), (1, .int .i64 a1), (2, .int .i64 a2), (22, .bool b3)] t) ?_ ?_
  · refine gk_region (by kernel_rfl) ?_
    refine gl_pure 1 [0, 1, 2, 12] (K' := [(0, .pointer (some ⟨g0, 0, none⟩)), (1, .int .i64 a1), (2, .int .i64 a2), (12, .int .i64 a1)]) (by kernel_rfl) ?_
    refine gl_callQ (by kernel_rfl) (tocsinref26_time_walk (r := (tocsinref26_time a1))  rfl _) ?_
    refine gl_pure 2 [0, 1, 2, 15] (K' := [(0, .pointer (some ⟨g0, 0, none⟩)), (1, .int .i64 a1), (2, .int .i64 a2), (15, .bool (!(tocsinref26_time a1)))]) (by kernel_rfl) ?_
    refine gl_case 15 (b := (!(tocsinref26_time a1))) (by kernel_rfl) (fun hc6 => ?_) (fun hc6 => ?_)
    · refine gl_pure 7 [0, 1, 2, 22] (K' := [(0, .pointer (some ⟨g0, 0, none⟩)), (1, .int .i64 a1), (2, .int .i64 a2), (22, .bool true)]) (by kernel_rfl) ?_
      refine gl_atE (by kernel_rfl) ?_
      exact ge_mid fun t ht => ⟨(Imm.refl _), rfl, by rw [(show b3 = true from hb4.trans (by first | (rw [hc6]; done) | (rw [hc6]; rfl) | (simp [hc6]; done) | (simp only [hc6]; rfl) | (simp at *; omega)))]; exact ht.pick (l := [0, 1, 2, 22]) (by kernel_rfl)⟩
    · refine gl_pure 4 [0, 1, 2, 19] (K' := [(0, .pointer (some ⟨g0, 0, none⟩)), (1, .int .i64 a1), (2, .int .i64 a2), (19, .bool (decide (a2 < 0)))]) (by kernel_rfl) ?_
      refine gl_case 19 (b := (decide (a2 < 0))) (by kernel_rfl) (fun hc7 => ?_) (fun hc7 => ?_)
      · refine gl_pure 3 [0, 1, 2, 22] (K' := [(0, .pointer (some ⟨g0, 0, none⟩)), (1, .int .i64 a1), (2, .int .i64 a2), (22, .bool true)]) (by kernel_rfl) ?_
        refine gl_atE (by kernel_rfl) ?_
        exact ge_mid fun t ht => ⟨(Imm.refl _), rfl, by rw [(show b3 = true from hb4.trans (by first | (rw [hc6, hc7]; done) | (rw [hc6, hc7]; rfl) | (simp [hc6, hc7]; done) | (simp only [hc6, hc7]; rfl) | (simp at *; omega)))]; exact ht.pick (l := [0, 1, 2, 22]) (by kernel_rfl)⟩
      · refine gl_pure 3 [0, 1, 2, 22] (K' := [(0, .pointer (some ⟨g0, 0, none⟩)), (1, .int .i64 a1), (2, .int .i64 a2), (22, .bool (decide (a2 > 1099511627776)))]) (by kernel_rfl) ?_
        refine gl_atE (by kernel_rfl) ?_
        exact ge_mid fun t ht => ⟨(Imm.refl _), rfl, by rw [(show b3 = (decide (a2 > 1099511627776)) from hb4.trans (by first | (rw [hc6, hc7]; done) | (rw [hc6, hc7]; rfl) | (simp [hc6, hc7]; done) | (simp only [hc6, hc7]; rfl) | (simp at *; omega)))]; exact ht.pick (l := [0, 1, 2, 22]) (by kernel_rfl)⟩
  · rintro t I5 L' ⟨hI1, rfl, hK2⟩
    subst hb4
    refine ge_at hK2 ?_
    refine ge_seq ?_
    refine gk_cond (b := (((!(tocsinref26_time a1)) || (decide (a2 < 0))) || (decide (a2 > 1099511627776)))) (by kernel_rfl) (by kernel_rfl) (fun hc8 => ?_) (fun hc8 => ?_)
    · have hr := cond_t hc8 hr
      refine gk_seq (by kernel_rfl) ?_
      refine gk_region (by kernel_rfl) ?_
      refine gl_pure 2 [6, 7] (K' := [(6, .int .i64 0), (7, .int .i64 1)]) (by kernel_rfl) ?_
      refine gl_atE (by kernel_rfl) ?_
      refine ge_seq ?_
      refine gk_ret (by kernel_rfl) ?_
      refine ge_seq_ret ?_
      obtain rfl := some_inj hr
      exact ge_result trivial (ResOk.tmp (by kernel_rfl) (ResOk.tmp (by kernel_rfl) ResOk.nil)) hI1 ⟨A0_0, c0_0, C0_0, (hO0_0.mono hI1), rfl, rfl⟩
    · have hr := cond_f hc8 hr
      refine gk_skip (by kernel_rfl) ?_
      refine ge_seq ?_
      refine gk_seq (by kernel_rfl) ?_
      refine gk_region (by kernel_rfl) ?_
      refine gl_pure 1 [0, 1, 2, 8] (K' := [(0, .pointer (some ⟨g0, 0, none⟩)), (1, .int .i64 a1), (2, .int .i64 a2), (8, .slice none 0 0)]) (by kernel_rfl) ?_
      refine gl_atE (by kernel_rfl) ?_
      refine ge_seq ?_
      refine gk_seq (by kernel_rfl) ?_
      refine gk_seq (by kernel_rfl) ?_
      refine gk_region (by kernel_rfl) ?_
      refine gl_pure 3 [0, 1, 2, 8, 25] (K' := [(0, .pointer (some ⟨g0, 0, none⟩)), (1, .int .i64 a1), (2, .int .i64 a2), (8, .slice none 0 0), (25, .pointer (some ⟨g0, 0, none⟩))]) (by kernel_rfl) ?_
      refine gl_loadB (T' := 29) (xp := (.tmp 25)) (v := .slice A0_0 a0.f0.length c0_0) (g := g0) (off := 0) (cs := #[.slice A0_0 a0.f0.length c0_0]) (e := T0) (fz := (0, 0)) (by kernel_rfl) (by kernel_rfl) (by kernel_rfl) List.mem_cons_self (by kernel_rfl) ?_
      refine gl_pure 2 [0, 1, 2, 8, 26, 27, 28] (K' := [(0, .pointer (some ⟨g0, 0, none⟩)), (1, .int .i64 a1), (2, .int .i64 a2), (8, .slice none 0 0), (26, .slice A0_0 a0.f0.length c0_0), (27, .int .i64 (a0.f0.length : Int)), (28, .int .i64 0)]) (by kernel_rfl) ?_
      refine gl_atE (by kernel_rfl) ?_
      refine ge_seq ?_
      obtain ⟨r17, hl18, hr⟩ := bind_some hr
      refine gk_join (fun t I' L' => ∃ A30 n31 C32, OwnS kS23 24 I' A30 n31 r17 C32 ∧ I5 ≤ I' ∧ C32 ++ ((g0, .cells #[.slice A0_0 a0.f0.length c0_0] T0) :: (C0_0 ++ L)) = L' ∧ Knows 56 [(0, .pointer (some ⟨g0, 0, none⟩)), (8, .slice A30 r17.length n31)] t) ?_ ?_
      · refine gk_block (by kernel_rfl) ?_
        refine gk_pick [0, 1, 2, 8, 26, 27, 28] (K' := [(0, .pointer (some ⟨g0, 0, none⟩)), (1, .int .i64 a1), (2, .int .i64 a2), (8, .slice none 0 0), (26, .slice A0_0 a0.f0.length c0_0), (27, .int .i64 (a0.f0.length : Int)), (28, .int .i64 0)]) (by kernel_rfl) ?_
        intro t hK
        refine gc_loop (tocsinref26_Log_Sweep_l36 a0 a1 a2) (fun s19 t I' L' => ∃ A23 n24 C25, OwnS kS23 24 I' A23 n24 s19.1 C25 ∧ I5 ≤ I' ∧ C25 ++ ((g0, .cells #[.slice A0_0 a0.f0.length c0_0] T0) :: (C0_0 ++ L)) = L' ∧ Knows 56 [(0, .pointer (some ⟨g0, 0, none⟩)), (1, .int .i64 a1), (2, .int .i64 a2), (8, .slice A23 s19.1.length n24), (26, .slice A0_0 a0.f0.length c0_0), (27, .int .i64 (a0.f0.length : Int)), (28, .int .i64 s19.2)] t) (by kernel_rfl) ?_ hl18 ⟨none, 0, [], OwnS.nil _ _ _ _, (Imm.refl _), rfl, hK⟩
        rintro s19 o20 t I28 L' hb21 ⟨A23, n24, C25, hO26, hI22, rfl, hK27⟩
        unfold tocsinref26_Log_Sweep_l36 at hb21
        refine gk_at hK27 ?_
        refine gk_seq (by kernel_rfl) ?_
        refine gk_region (by kernel_rfl) ?_
        refine gl_pure 1 [0, 1, 2, 8, 26, 27, 28, 29] (K' := [(0, .pointer (some ⟨g0, 0, none⟩)), (1, .int .i64 a1), (2, .int .i64 a2), (8, .slice A23 s19.1.length n24), (26, .slice A0_0 a0.f0.length c0_0), (27, .int .i64 (a0.f0.length : Int)), (28, .int .i64 s19.2), (29, .bool (decide (s19.2 < (a0.f0.length : Int))))]) (by kernel_rfl) ?_
        refine gl_atE (by kernel_rfl) ?_
        refine ge_seq ?_
        refine gk_seq (by kernel_rfl) ?_
        refine gk_cond (b := (decide (s19.2 < (a0.f0.length : Int)))) (by kernel_rfl) (by kernel_rfl) (fun hc38 => ?_) (fun hc38 => ?_)
        · have hb21 := cond_t hc38 hb21
          refine gk_skip (by kernel_rfl) ?_
          refine ge_seq ?_
          refine gk_seq (by kernel_rfl) ?_
          refine gk_block (by kernel_rfl) ?_
          refine gk_seq (by kernel_rfl) ?_
          refine gk_region (by kernel_rfl) ?_
          obtain ⟨x39, hx40, hb21⟩ := bind_some hb21
          refine gl_indexAddrW (d := kS23) (c := c0_0) (T' := 29) (e := 24) (xs := (.tmp 26)) (xi := (.tmp 28)) (kd := .i64) hx40 (hO0_0.mono (Imm.trans hI1 hI22)) (Upd.app _ (Upd.one _ (Upd.selfC _ _))) (by kernel_rfl) (by kernel_rfl) (by kernel_rfl) (by kernel_rfl) (by kernel_rfl) (fun p41 cs42 hR43 hA44 hp53 => ?_)
          obtain ⟨A47, n48, A50, n51, hf49, hf52, rfl⟩ := kS23_open hR43
          refine gl_loadOA (T' := 24) (xp := (.tmp 30)) (p := p41) (cs := [.string x39.f0, .string x39.f1, .int .i64 x39.f2, .slice A47 x39.f3.length n48, .slice A50 x39.f4.length n51]) (by kernel_rfl) (by kernel_rfl) (by kernel_rfl) (by kernel_rfl) (hA44.take 5) ?_
          refine gl_alloc (T' := 24) (cs := #[.string (⟨#[]⟩ : ByteArray), .string (⟨#[]⟩ : ByteArray), .int .i64 0, .slice none 0 0, .slice none 0 0]) (by kernel_rfl) (by kernel_rfl) (by kernel_rfl) (fun g54 => ?_)
          refine gl_storeB (T' := 24) (xp := (.tmp 10)) (xv := (.tmp 31)) (v := .agg #[.string x39.f0, .string x39.f1, .int .i64 x39.f2, .slice A47 x39.f3.length n48, .slice A50 x39.f4.length n51]) (g := g54) (off := 0) (cs := #[.string (⟨#[]⟩ : ByteArray), .string (⟨#[]⟩ : ByteArray), .int .i64 0, .slice none 0 0, .slice none 0 0]) (cs' := #[.string x39.f0, .string x39.f1, .int .i64 x39.f2, .slice A47 x39.f3.length n48, .slice A50 x39.f4.length n51]) (by kernel_rfl) (by kernel_rfl) (by kernel_rfl) (by kernel_rfl) (by kernel_rfl) (Upd.set _ _ _ _) ?_ (by kernel_rfl)
          refine gl_atE (by kernel_rfl) ?_
          refine ge_seq ?_
          refine gk_seq (by kernel_rfl) ?_
          refine gk_region (by kernel_rfl) ?_
          refine gl_pure 1 [0, 1, 2, 8, 10, 26, 27, 28, 32] (K' := [(0, .pointer (some ⟨g0, 0, none⟩)), (1, .int .i64 a1), (2, .int .i64 a2), (8, .slice A23 s19.1.length n24), (10, .pointer (some ⟨g54, 0, none⟩)), (26, .slice A0_0 a0.f0.length c0_0), (27, .int .i64 (a0.f0.length : Int)), (28, .int .i64 s19.2), (32, .pointer (some ⟨g54, 2, none⟩))]) (by kernel_rfl) ?_
          refine gl_loadB (T' := 2) (xp := (.tmp 32)) (v := .int .i64 x39.f2) (g := g54) (off := 2) (cs := #[.string x39.f0, .string x39.f1, .int .i64 x39.f2, .slice A47 x39.f3.length n48, .slice A50 x39.f4.length n51]) (e := 24) (fz := (0, 0)) (by kernel_rfl) (by kernel_rfl) (by kernel_rfl) List.mem_cons_self (by kernel_rfl) ?_
          refine gl_pure 4 [0, 1, 2, 8, 10, 26, 27, 28, 37] (K' := [(0, .pointer (some ⟨g0, 0, none⟩)), (1, .int .i64 a1), (2, .int .i64 a2), (8, .slice A23 s19.1.length n24), (10, .pointer (some ⟨g54, 0, none⟩)), (26, .slice A0_0 a0.f0.length c0_0), (27, .int .i64 (a0.f0.length : Int)), (28, .int .i64 s19.2), (37, .bool (decide (x39.f2 > (IntKind.wrap .i64 (a1 - a2)))))]) (by kernel_rfl) ?_
          refine gl_atE (by kernel_rfl) ?_
          refine ge_seq ?_
          obtain ⟨j55, hj56, hb21⟩ := bind_some hb21
          refine gk_join (fun t I' L' => ∃ A58 n59 C60, OwnS kS23 24 I' A58 n59 j55 C60 ∧ I28 ≤ I' ∧ C60 ++ ((g0, .cells #[.slice A0_0 a0.f0.length c0_0] T0) :: (C0_0 ++ L)) = L' ∧ Knows 56 [(0, .pointer (some ⟨g0, 0, none⟩)), (1, .int .i64 a1), (2, .int .i64 a2), (8, .slice A58 j55.length n59), (26, .slice A0_0 a0.f0.length c0_0), (27, .int .i64 (a0.f0.length : Int)), (28, .int .i64 s19.2)] t) ?_ ?_
          · refine gk_cond (b := (decide (x39.f2 > (IntKind.wrap .i64 (a1 - a2))))) (by kernel_rfl) (by kernel_rfl) (fun hc64 => ?_) (fun hc64 => ?_)
            · have hj56 := cond_t hc64 hj56
              refine gk_region (by kernel_rfl) ?_
              refine gl_pure 1 [0, 1, 2, 10, 26, 27, 28, 38] (K' := [(0, .pointer (some ⟨g0, 0, none⟩)), (1, .int .i64 a1), (2, .int .i64 a2), (10, .pointer (some ⟨g54, 0, none⟩)), (26, .slice A0_0 a0.f0.length c0_0), (27, .int .i64 (a0.f0.length : Int)), (28, .int .i64 s19.2), (38, .slice A23 s19.1.length n24)]) (by kernel_rfl) ?_
              refine gl_loadB (T' := 24) (xp := (.tmp 10)) (v := .agg #[.string x39.f0, .string x39.f1, .int .i64 x39.f2, .slice A47 x39.f3.length n48, .slice A50 x39.f4.length n51]) (g := g54) (off := 0) (cs := #[.string x39.f0, .string x39.f1, .int .i64 x39.f2, .slice A47 x39.f3.length n48, .slice A50 x39.f4.length n51]) (e := 24) (fz := (0, 0)) (by kernel_rfl) (by kernel_rfl) (by kernel_rfl) List.mem_cons_self (by kernel_rfl) ?_
              refine gl_buildSlice (T' := 29) (e := 24) (n := 5) (len := 1) (parts := #[(0, (.tmp 39))]) (l := [(0, .agg #[.string x39.f0, .string x39.f1, .int .i64 x39.f2, .slice A47 x39.f3.length n48, .slice A50 x39.f4.length n51])]) (cs := #[.string x39.f0, .string x39.f1, .int .i64 x39.f2, .slice A47 x39.f3.length n48, .slice A50 x39.f4.length n51]) (by kernel_rfl) (by kernel_rfl) (by kernel_rfl) (by kernel_rfl) (by kernel_rfl) (fun g65 => ?_)
              have hO66 : OwnS kS23 24 I28 (some ⟨g65, 0, none⟩) 1 [x39] [(g65, .cells #[.string x39.f0, .string x39.f1, .int .i64 x39.f2, .slice A47 x39.f3.length n48, .slice A50 x39.f4.length n51] 24)] := OwnS.lit (row_cons (l := [.string x39.f0, .string x39.f1, .int .i64 x39.f2, .slice A47 x39.f3.length n48, .slice A50 x39.f4.length n51]) (kS23_mk (x := x39) hf49 hf52) (row_nil _ _)) rfl rfl rfl
              refine gl_reord (D := [(g65, .cells #[.string x39.f0, .string x39.f1, .int .i64 x39.f2, .slice A47 x39.f3.length n48, .slice A50 x39.f4.length n51] 24)] ++ ((g54, .cells #[.string x39.f0, .string x39.f1, .int .i64 x39.f2, .slice A47 x39.f3.length n48, .slice A50 x39.f4.length n51] 24) :: (C25 ++ ((g0, .cells #[.slice A0_0 a0.f0.length c0_0] T0) :: (C0_0 ++ L))))) (Reord.refl _) ?_
              obtain ⟨zs69, hz70, hj56⟩ := bind_some hj56
              refine gl_append (xv := .slice (some ⟨g65, 0, none⟩) [x39].length 1) (d := kS23) (t := 29) (tx := 29) (e := 24) (s := (.tmp 38)) (x := (.tmp 40)) (xs := s19.1) (fun X => [(g65, .cells #[.string x39.f0, .string x39.f1, .int .i64 x39.f2, .slice A47 x39.f3.length n48, .slice A50 x39.f4.length n51] 24)] ++ ((g54, .cells #[.string x39.f0, .string x39.f1, .int .i64 x39.f2, .slice A47 x39.f3.length n48, .slice A50 x39.f4.length n51] 24) :: (X ++ ((g0, .cells #[.slice A0_0 a0.f0.length c0_0] T0) :: (C0_0 ++ L))))) hz70 (by kernel_rfl) (by kernel_rfl) (by kernel_rfl) (by kernel_rfl) (by kernel_rfl) (by kernel_rfl) (fun X => (Upd.app _ (Upd.one _ (Upd.head _ X _)))) hO26 (SrcOk.slice (c := 1) (e := 24) (n := 5) (OwnS.rd hO66 (Upd.selfC _ _)) (by kernel_rfl)) (fun A71 n72 C73 hO74 => ?_)
              refine gl_pure 1 [0, 1, 2, 8, 26, 27, 28] (K' := [(0, .pointer (some ⟨g0, 0, none⟩)), (1, .int .i64 a1), (2, .int .i64 a2), (8, .slice A71 zs69.length n72), (26, .slice A0_0 a0.f0.length c0_0), (27, .int .i64 (a0.f0.length : Int)), (28, .int .i64 s19.2)]) (by kernel_rfl) ?_
              refine gl_reord (D := C73 ++ ((g0, .cells #[.slice A0_0 a0.f0.length c0_0] T0) :: (C0_0 ++ L))) (Reord.step (Upd.app _ (Upd.one _ (Upd.rmC _ _))) (Reord.step1 (Upd.app _ (Upd.one _ (Upd.rm1 _ _))) (Reord.step (Upd.app _ (Upd.one _ (Upd.rmC _ _))) (Reord.skipC (Reord.skip (Reord.refl _)))))) ?_
              refine gl_atE (by kernel_rfl) ?_
              obtain rfl := some_inj hj56
              exact ge_mid fun t ht => ⟨A71, n72, C73, hO74, (Imm.refl _), rfl, ht.pick (l := [0, 1, 2, 8, 26, 27, 28]) (by kernel_rfl)⟩
            · have hj56 := cond_f hc64 hj56
              refine gk_reord (D := C25 ++ ((g0, .cells #[.slice A0_0 a0.f0.length c0_0] T0) :: (C0_0 ++ L))) (Reord.step (Upd.one _ (Upd.rmC _ _)) (Reord.step1 (Upd.one _ (Upd.rm1 _ _)) (Reord.step (Upd.one _ (Upd.rmC _ _)) (Reord.skip (Reord.refl _))))) ?_
              refine gk_skip (by kernel_rfl) ?_
              obtain rfl := some_inj hj56
              exact ge_mid fun t ht => ⟨A23, n24, C25, hO26, (Imm.refl _), rfl, ht.pick (l := [0, 1, 2, 8, 26, 27, 28]) (by kernel_rfl)⟩
          · rintro t I63 L' ⟨A58, n59, C60, hO61, hI57, rfl, hK62⟩
            refine ge_at hK62 ?_
            refine ge_block_normal ?_
            refine ge_seq ?_
            refine gk_region (by kernel_rfl) ?_
            refine gl_pure 2 [0, 1, 2, 8, 26, 27, 28] (K' := [(0, .pointer (some ⟨g0, 0, none⟩)), (1, .int .i64 a1), (2, .int .i64 a2), (8, .slice A58 j55.length n59), (26, .slice A0_0 a0.f0.length c0_0), (27, .int .i64 (a0.f0.length : Int)), (28, .int .i64 (IntKind.wrap .i64 (s19.2 + 1)))]) (by kernel_rfl) ?_
            refine gl_atE (by kernel_rfl) ?_
            obtain rfl := some_inj hb21
            exact ge_round fun t ht => ⟨A58, n59, C60, hO61, (Imm.trans hI22 hI57), rfl, ht.pick (l := [0, 1, 2, 8, 26, 27, 28]) (by kernel_rfl)⟩
        · have hb21 := cond_f hc38 hb21
          refine gk_exit (by kernel_rfl) ?_
          refine ge_seq_exit ?_
          obtain rfl := some_inj hb21
          refine ge_round_out (fun hrr => ?_) (by intro h; cases h)
          obtain rfl := hrr
          refine ge_block_hit (by kernel_rfl) ?_
          exact ge_mid fun t ht => ⟨A23, n24, C25, hO26, hI22, rfl, ht.pick (l := [0, 8]) (by kernel_rfl)⟩
      · rintro t I35 L' ⟨A30, n31, C32, hO33, hI29, rfl, hK34⟩
        refine ge_at hK34 ?_
        refine ge_seq ?_
        refine gk_seq (by kernel_rfl) ?_
        refine gk_region (by kernel_rfl) ?_
        refine gl_pure 3 [0, 8, 45] (K' := [(0, .pointer (some ⟨g0, 0, none⟩)), (8, .slice A30 r17.length n31), (45, .pointer (some ⟨g0, 0, none⟩))]) (by kernel_rfl) ?_
        refine gl_loadB (T' := 29) (xp := (.tmp 45)) (v := .slice A0_0 a0.f0.length c0_0) (g := g0) (off := 0) (cs := #[.slice A0_0 a0.f0.length c0_0]) (e := T0) (fz := (0, 0)) (by kernel_rfl) (by kernel_rfl) (by kernel_rfl) (List.mem_append_right _ List.mem_cons_self) (by kernel_rfl) ?_
        refine gl_pure 5 [0, 8, 11] (K' := [(0, .pointer (some ⟨g0, 0, none⟩)), (8, .slice A30 r17.length n31), (11, .int .i64 (IntKind.wrap .i64 ((a0.f0.length : Int) - (r17.length : Int))))]) (by kernel_rfl) ?_
        refine gl_atE (by kernel_rfl) ?_
        refine ge_seq ?_
        refine gk_seq (by kernel_rfl) ?_
        refine gk_region (by kernel_rfl) ?_
        refine gl_pure 4 [11, 52, 54] (K' := [(11, .int .i64 (IntKind.wrap .i64 ((a0.f0.length : Int) - (r17.length : Int)))), (52, .slice A30 r17.length n31), (54, .pointer (some ⟨g0, 0, none⟩))]) (by kernel_rfl) ?_
        refine gl_storeB (T' := 29) (xp := (.tmp 54)) (xv := (.tmp 52)) (v := .slice A30 r17.length n31) (g := g0) (off := 0) (cs := #[.slice A0_0 a0.f0.length c0_0]) (cs' := #[.slice A30 r17.length n31]) (by kernel_rfl) (by kernel_rfl) (by kernel_rfl) (by kernel_rfl) (by kernel_rfl) (Upd.app _ (Upd.set _ _ _ _)) ?_ (by kernel_rfl)
        refine gl_atE (by kernel_rfl) ?_
        refine ge_seq ?_
        refine gk_seq (by kernel_rfl) ?_
        refine gk_region (by kernel_rfl) ?_
        refine gl_pure 3 [6, 7] (K' := [(6, .int .i64 (IntKind.wrap .i64 ((a0.f0.length : Int) - (r17.length : Int)))), (7, .int .i64 0)]) (by kernel_rfl) ?_
        refine gl_atE (by kernel_rfl) ?_
        refine ge_seq ?_
        refine gk_reord (D := (g0, .cells #[.slice A30 r17.length n31] T0) :: (C32 ++ L)) (Reord.step1 (Upd.app _ (Upd.rm1 _ _)) (Reord.step (Upd.rmC _ _) (Reord.skipC (Reord.refl _)))) ?_
        refine gk_ret (by kernel_rfl) ?_
        obtain rfl := some_inj hr
        exact ge_result trivial (ResOk.tmp (by kernel_rfl) (ResOk.tmp (by kernel_rfl) ResOk.nil)) (Imm.trans hI1 hI29) ⟨A30, n31, C32, hO33, rfl, rfl⟩
/-! 7 tocsinlaw26_step ('obj', 'obj', 'imm') -/
noncomputable def tocsinlaw26_step (a0 : S45) (a1 : S30) (a2 : S37) : Option (Bool × S45 × S30) :=
  Option.bind (tocsinlaw26_mark a2.f1) fun (y2 : S23) =>
  bif (a2.f0 == 0) then
  (Option.bind (Option.bind (nflog_Log_Put_f6 a0 y2) fun (y31 : Int × S45) =>
      Option.bind (tocsinref26_Log_Put a1 a2.f1) fun (y40 : Int × S30) =>
      bif (y31.1 == y40.1) then
      (Option.bind (tocsinref26_Same y2 a2.f1) fun (y50 : Bool) =>
        some (y50, y31.2.f0.f0, y40.2.f0))
      else
      (some (false, y31.2.f0.f0, y40.2.f0))) fun (j18 : Bool × (List S76) × (List S23)) =>
    some (j18.1, (⟨(⟨j18.2.1⟩ : S43)⟩ : S45), (⟨j18.2.2⟩ : S30)))
  else
  (bif (a2.f0 == 1) then
    (none)
    else
    (bif (a2.f0 == 2) then
      (none)
      else
      (bif (a2.f0 == 3) then
        (Option.bind (nflog_Log_Sweep a0 a2.f2 a2.f3) fun (y97 : Int × Int × S45) =>
          Option.bind (tocsinref26_Log_Sweep a1 a2.f2 a2.f3) fun (y106 : Int × Int × S30) =>
          some (((y97.1 == y106.1) && (y97.2.1 == y106.2.1)), y97.2.2, y106.2.2))
        else
        (some (true, a0, a1)))))
theorem tocsinlaw26_step_walk {a0 : S45} {g0 : Nat} {T0 : TypeId} {A0_0 : Option Addr} {c0_0 : Nat} {C0_0 : Own} {a1 : S30} {g1 : Nat} {T1 : TypeId} {A1_0 : Option Addr} {c1_0 : Nat} {C1_0 : Own} {a2 : S37} {A2_4 : Option Addr} {n2_4 : Nat} {A2_5 : Option Addr} {n2_5 : Nat} {I : Imm} {r : Bool × S45 × S30} (hG : Gl I)  (hO0_0 : OwnS kS76 77 I A0_0 c0_0 a0.f0.f0 C0_0)  (hO1_0 : OwnS kS23 24 I A1_0 c1_0 a1.f0 C1_0)  (hf2_4 : RepS (Kd.sl kS53) I A2_4 n2_4 a2.f1.f3) (hf2_5 : RepS (Kd.sl kS53) I A2_5 n2_5 a2.f1.f4) (hr : tocsinlaw26_step a0 a1 a2 = some r) (L : Own) :
    CallsTo Tryd.prog 7 #[.pointer (some ⟨g0, 0, none⟩), .pointer (some ⟨g1, 0, none⟩), .agg #[.int .i64 a2.f0, .string a2.f1.f0, .string a2.f1.f1, .int .i64 a2.f1.f2, .slice A2_4 a2.f1.f3.length n2_4, .slice A2_5 a2.f1.f4.length n2_5, .int .i64 a2.f2, .int .i64 a2.f3]] I ((g0, .cells #[.slice A0_0 a0.f0.f0.length c0_0] T0) :: (C0_0 ++ ((g1, .cells #[.slice A1_0 a1.f0.length c1_0] T1) :: (C1_0 ++ L)))) (fun v I' L' => ∃ A1_0 c1_0 C1_0 A2_0 c2_0 C2_0, OwnS kS76 77 I' A1_0 c1_0 r.2.1.f0.f0 C1_0 ∧ OwnS kS23 24 I' A2_0 c2_0 r.2.2.f0 C2_0 ∧ v = .bool r.1 ∧ (g0, .cells #[.slice A1_0 r.2.1.f0.f0.length c1_0] T0) :: (C1_0 ++ ((g1, .cells #[.slice A2_0 r.2.2.f0.length c2_0] T1) :: (C2_0 ++ L))) = L') := by
  unfold tocsinlaw26_step at hr
  refine callsTo_body (N := 160) Tryd.func7 (by kernel_rfl) (by kernel_rfl) (by kernel_rfl) ?_
  refine gk_pick [0, 1, 2] (K' := [(0, .pointer (some ⟨g0, 0, none⟩)), (1, .pointer (some ⟨g1, 0, none⟩)), (2, .agg #[.int .i64 a2.f0, .string a2.f1.f0, .string a2.f1.f1, .int .i64 a2.f1.f2, .slice A2_4 a2.f1.f3.length n2_4, .slice A2_5 a2.f1.f4.length n2_5, .int .i64 a2.f2, .int .i64 a2.f3])]) (by kernel_rfl) ?_
  refine gk_seq (by kernel_rfl) ?_
  refine gk_region (by kernel_rfl) ?_
  refine gl_box (T' := 38) (x := (.tmp 2)) (v := .agg #[.int .i64 a2.f0, .string a2.f1.f0, .string a2.f1.f1, .int .i64 a2.f1.f2, .slice A2_4 a2.f1.f3.length n2_4, .slice A2_5 a2.f1.f4.length n2_5, .int .i64 a2.f2, .int .i64 a2.f3]) (cs := #[.int .i64 a2.f0, .string a2.f1.f0, .string a2.f1.f1, .int .i64 a2.f1.f2, .slice A2_4 a2.f1.f3.length n2_4, .slice A2_5 a2.f1.f4.length n2_5, .int .i64 a2.f2, .int .i64 a2.f3]) (by kernel_rfl) (by kernel_rfl) (by kernel_rfl) (by kernel_rfl) (fun gb1 => ?_)
  refine gl_pure 1 [0, 1, 5] (K' := [(0, .pointer (some ⟨g0, 0, none⟩)), (1, .pointer (some ⟨g1, 0, none⟩)), (5, .pointer (some ⟨gb1, 0, none⟩))]) (by kernel_rfl) ?_
  refine gl_atE (by kernel_rfl) ?_
  refine ge_seq ?_
  refine gk_seq (by kernel_rfl) ?_
  refine gk_region (by kernel_rfl) ?_
  refine gl_pure 1 [0, 1, 5, 22] (K' := [(0, .pointer (some ⟨g0, 0, none⟩)), (1, .pointer (some ⟨g1, 0, none⟩)), (5, .pointer (some ⟨gb1, 0, none⟩)), (22, .pointer (some ⟨gb1, 1, none⟩))]) (by kernel_rfl) ?_
  refine gl_loadB (T' := 24) (xp := (.tmp 22)) (v := .agg #[.string a2.f1.f0, .string a2.f1.f1, .int .i64 a2.f1.f2, .slice A2_4 a2.f1.f3.length n2_4, .slice A2_5 a2.f1.f4.length n2_5]) (g := gb1) (off := 1) (cs := #[.int .i64 a2.f0, .string a2.f1.f0, .string a2.f1.f1, .int .i64 a2.f1.f2, .slice A2_4 a2.f1.f3.length n2_4, .slice A2_5 a2.f1.f4.length n2_5, .int .i64 a2.f2, .int .i64 a2.f3]) (e := 38) (fz := (0, 0)) (by kernel_rfl) (by kernel_rfl) (by kernel_rfl) List.mem_cons_self (by kernel_rfl) ?_
  obtain ⟨y2, hx3, hr⟩ := bind_some hr
  refine gl_call (by kernel_rfl) (tocsinlaw26_mark_walkX (r := y2) hf2_4 hf2_5 hx3 _) ?_
  rintro v I13 L14 hI15 ⟨A4, c5, A6, c7, X8, hf9, hf10, hs11, hs12, rfl, rfl⟩
  refine gl_alloc (T' := 24) (cs := #[.string (⟨#[]⟩ : ByteArray), .string (⟨#[]⟩ : ByteArray), .int .i64 0, .slice none 0 0, .slice none 0 0]) (by kernel_rfl) (by kernel_rfl) (by kernel_rfl) (fun g16 => ?_)
  refine gl_storeB (T' := 24) (xp := (.tmp 7)) (xv := (.tmp 24)) (v := .agg #[.string y2.f0, .string y2.f1, .int .i64 y2.f2, .slice A4 y2.f3.length c5, .slice A6 y2.f4.length c7]) (g := g16) (off := 0) (cs := #[.string (⟨#[]⟩ : ByteArray), .string (⟨#[]⟩ : ByteArray), .int .i64 0, .slice none 0 0, .slice none 0 0]) (cs' := #[.string y2.f0, .string y2.f1, .int .i64 y2.f2, .slice A4 y2.f3.length c5, .slice A6 y2.f4.length c7]) (by kernel_rfl) (by kernel_rfl) (by kernel_rfl) (by kernel_rfl) (by kernel_rfl) (Upd.set _ _ _ _) ?_ (by kernel_rfl)
  refine gl_atE (by kernel_rfl) ?_
  refine ge_seq ?_
  refine gk_seq (by kernel_rfl) ?_
  refine gk_seq (by kernel_rfl) ?_
  refine gk_region (by kernel_rfl) ?_
  refine gl_pure 1 [0, 1, 5, 7, 25] (K' := [(0, .pointer (some ⟨g0, 0, none⟩)), (1, .pointer (some ⟨g1, 0, none⟩)), (5, .pointer (some ⟨gb1, 0, none⟩)), (7, .pointer (some ⟨g16, 0, none⟩)), (25, .pointer (some ⟨gb1, 0, none⟩))]) (by kernel_rfl) ?_
  refine gl_loadB (T' := 3) (xp := (.tmp 25)) (v := .int .i64 a2.f0) (g := gb1) (off := 0) (cs := #[.int .i64 a2.f0, .string a2.f1.f0, .string a2.f1.f1, .int .i64 a2.f1.f2, .slice A2_4 a2.f1.f3.length n2_4, .slice A2_5 a2.f1.f4.length n2_5, .int .i64 a2.f2, .int .i64 a2.f3]) (e := 38) (fz := (0, 0)) (by kernel_rfl) (by kernel_rfl) (by kernel_rfl) (List.mem_cons_of_mem _ (List.mem_append_right _ List.mem_cons_self)) (by kernel_rfl) ?_
  refine gl_atE (by kernel_rfl) ?_
  refine ge_seq ?_
  refine gk_block (by kernel_rfl) ?_
  refine gk_seq (by kernel_rfl) ?_
  refine gk_region (by kernel_rfl) ?_
  refine gl_pure 2 [0, 1, 5, 7, 26, 27] (K' := [(0, .pointer (some ⟨g0, 0, none⟩)), (1, .pointer (some ⟨g1, 0, none⟩)), (5, .pointer (some ⟨gb1, 0, none⟩)), (7, .pointer (some ⟨g16, 0, none⟩)), (26, .int .i64 a2.f0), (27, .bool (a2.f0 == 0))]) (by kernel_rfl) ?_
  refine gl_atE (by kernel_rfl) ?_
  refine ge_seq ?_
  refine gk_cond (b := (a2.f0 == 0)) (by kernel_rfl) (by kernel_rfl) (fun hc17 => ?_) (fun hc17 => ?_)
  · have hr := cond_t hc17 hr
    refine gk_seq (by kernel_rfl) ?_
    obtain ⟨j18, hj19, hr⟩ := bind_some hr
    refine gk_join (fun t I' L' => ∃ A21 n22 C23 A25 n26 C27, OwnS kS76 77 I' A21 n22 j18.2.1 C23 ∧ OwnS kS23 24 I' A25 n26 j18.2.2 C27 ∧ I13 ≤ I' ∧ C23 ++ (C27 ++ ((g16, .cells #[.string y2.f0, .string y2.f1, .int .i64 y2.f2, .slice A4 y2.f3.length c5, .slice A6 y2.f4.length c7] 24) :: (X8 ++ ((g0, .cells #[.slice A21 j18.2.1.length n22] T0) :: ((g1, .cells #[.slice A25 j18.2.2.length n26] T1) :: L))))) = L' ∧ Knows 160 [(7, .pointer (some ⟨g16, 0, none⟩)), (8, .bool j18.1)] t) ?_ ?_
    · refine gk_draw 12 [(0, true), (1, true), (3, true), (4, true), (5, true), (2, false), (6, false), (7, true), (8, true), (9, true), (10, true), (11, true)] [(g16, .cells #[.string y2.f0, .string y2.f1, .int .i64 y2.f2, .slice A4 y2.f3.length c5, .slice A6 y2.f4.length c7] 24), (gb1, .cells #[.int .i64 a2.f0, .string a2.f1.f0, .string a2.f1.f1, .int .i64 a2.f1.f2, .slice A2_4 a2.f1.f3.length n2_4, .slice A2_5 a2.f1.f4.length n2_5, .int .i64 a2.f2, .int .i64 a2.f3] 38)] (List.forall_mem_cons.2 ⟨List.mem_cons_self, (List.forall_mem_cons.2 ⟨(List.mem_cons_of_mem _ (List.mem_append_right _ List.mem_cons_self)), (fun p hp => by cases hp)⟩)⟩) (by kernel_rfl) (by kernel_rfl) (by kernel_rfl) ?_ (by kernel_rfl)
      refine gd_pure 1 [1, 5, 7, 29] (K' := [(1, .pointer (some ⟨g1, 0, none⟩)), (5, .pointer (some ⟨gb1, 0, none⟩)), (7, .pointer (some ⟨g16, 0, none⟩)), (29, .pointer (some ⟨g0, 0, none⟩))]) (s' := [(1, true), (3, true), (4, true), (5, true), (2, false), (6, false), (7, true), (8, true), (9, true), (10, true), (11, true)]) (CC.refl (List.forall_mem_cons.2 ⟨List.mem_cons_self, (List.forall_mem_cons.2 ⟨(List.mem_cons_of_mem _ (List.mem_append_right _ List.mem_cons_self)), (fun p hp => by cases hp)⟩)⟩)) (by kernel_rfl) ?_
      refine gd_q (v := .agg #[.string y2.f0, .string y2.f1, .int .i64 y2.f2, .slice A4 y2.f3.length c5, .slice A6 y2.f4.length c7]) (by kernel_rfl) (by kernel_rfl) (CC.refl (List.forall_mem_cons.2 ⟨List.mem_cons_self, (List.forall_mem_cons.2 ⟨(List.mem_cons_of_mem _ (List.mem_append_right _ List.mem_cons_self)), (fun p hp => by cases hp)⟩)⟩)) (fun I' L' T hC kk => gl_loadB (T' := 24) (xp := (.tmp 7)) (v := .agg #[.string y2.f0, .string y2.f1, .int .i64 y2.f2, .slice A4 y2.f3.length c5, .slice A6 y2.f4.length c7]) (g := g16) (off := 0) (cs := #[.string y2.f0, .string y2.f1, .int .i64 y2.f2, .slice A4 y2.f3.length c5, .slice A6 y2.f4.length c7]) (e := 24) (fz := (0, 0)) (by kernel_rfl) (by kernel_rfl) (by kernel_rfl) (hC.sub _ List.mem_cons_self) (by kernel_rfl) kk) ?_
      refine gd_pure 2 [5, 7, 29, 30, 32, 33] (K' := [(5, .pointer (some ⟨gb1, 0, none⟩)), (7, .pointer (some ⟨g16, 0, none⟩)), (29, .pointer (some ⟨g0, 0, none⟩)), (30, .agg #[.string y2.f0, .string y2.f1, .int .i64 y2.f2, .slice A4 y2.f3.length c5, .slice A6 y2.f4.length c7]), (32, .pointer (some ⟨g1, 0, none⟩)), (33, .pointer (some ⟨gb1, 1, none⟩))]) (s' := [(5, true), (2, false), (6, false), (7, true), (8, true), (9, true), (10, true), (11, true)]) (CC.refl (List.forall_mem_cons.2 ⟨List.mem_cons_self, (List.forall_mem_cons.2 ⟨(List.mem_cons_of_mem _ (List.mem_append_right _ List.mem_cons_self)), (fun p hp => by cases hp)⟩)⟩)) (by kernel_rfl) ?_
      refine gd_q (v := .agg #[.string a2.f1.f0, .string a2.f1.f1, .int .i64 a2.f1.f2, .slice A2_4 a2.f1.f3.length n2_4, .slice A2_5 a2.f1.f4.length n2_5]) (by kernel_rfl) (by kernel_rfl) (CC.refl (List.forall_mem_cons.2 ⟨List.mem_cons_self, (List.forall_mem_cons.2 ⟨(List.mem_cons_of_mem _ (List.mem_append_right _ List.mem_cons_self)), (fun p hp => by cases hp)⟩)⟩)) (fun I' L' T hC kk => gl_loadB (T' := 24) (xp := (.tmp 33)) (v := .agg #[.string a2.f1.f0, .string a2.f1.f1, .int .i64 a2.f1.f2, .slice A2_4 a2.f1.f3.length n2_4, .slice A2_5 a2.f1.f4.length n2_5]) (g := gb1) (off := 1) (cs := #[.int .i64 a2.f0, .string a2.f1.f0, .string a2.f1.f1, .int .i64 a2.f1.f2, .slice A2_4 a2.f1.f3.length n2_4, .slice A2_5 a2.f1.f4.length n2_5, .int .i64 a2.f2, .int .i64 a2.f3]) (e := 38) (fz := (0, 0)) (by kernel_rfl) (by kernel_rfl) (by kernel_rfl) (hC.sub _ (List.mem_cons_of_mem _ List.mem_cons_self)) (by kernel_rfl) kk) ?_
      refine gd_one (by kernel_rfl) ?_
      obtain ⟨y31, hx32, hj19⟩ := bind_some hj19
      refine gl_reord (D := (g0, .cells #[.slice A0_0 a0.f0.f0.length c0_0] T0) :: (C0_0 ++ (X8 ++ ((g16, .cells #[.string y2.f0, .string y2.f1, .int .i64 y2.f2, .slice A4 y2.f3.length c5, .slice A6 y2.f4.length c7] 24) :: ((gb1, .cells #[.int .i64 a2.f0, .string a2.f1.f0, .string a2.f1.f1, .int .i64 a2.f1.f2, .slice A2_4 a2.f1.f3.length n2_4, .slice A2_5 a2.f1.f4.length n2_5, .int .i64 a2.f2, .int .i64 a2.f3] 38) :: ((g1, .cells #[.slice A1_0 a1.f0.length c1_0] T1) :: (C1_0 ++ L))))))) (Reord.step1 (Upd.one _ (Upd.app _ (Upd.one _ (Upd.rm1 _ _)))) (Reord.step (Upd.one _ (Upd.app _ (Upd.one _ (Upd.rmC _ _)))) (Reord.step (Upd.one _ (Upd.rmC _ _)) (Reord.step1 (Upd.rm1 _ _) (Reord.step1 (Upd.rm1 _ _) (Reord.step1 (Upd.rm1 _ _) (Reord.step (Upd.rmC _ _) (Reord.refl _)))))))) ?_
      refine gl_call (by kernel_rfl) (nflog_Log_Put_f6_walk (r := y31) (g0 := g0) (T0 := T0) (A0_0 := A0_0) (c0_0 := c0_0) (C0_0 := C0_0) (a0 := a0) (X1 := X8) (a1 := y2) (hG.mono hI15) (hO0_0.mono hI15) hf9 hf10 hx32 _) ?_
      rintro v I33 L34 hI35 ⟨A36, c37, C38, hO39, rfl, rfl⟩
      refine gl_toD (by kernel_rfl) ⟨hI35, (List.forall_mem_cons.2 ⟨(List.mem_cons_of_mem _ (List.mem_append_right _ (List.mem_append_right _ List.mem_cons_self))), (List.forall_mem_cons.2 ⟨(List.mem_cons_of_mem _ (List.mem_append_right _ (List.mem_append_right _ (List.mem_cons_of_mem _ List.mem_cons_self)))), (fun p hp => by cases hp)⟩)⟩)⟩ ?_
      refine gd_one (by kernel_rfl) ?_
      obtain ⟨y40, hx41, hj19⟩ := bind_some hj19
      refine gl_reord (D := (g1, .cells #[.slice A1_0 a1.f0.length c1_0] T1) :: (C1_0 ++ ((g0, .cells #[.slice A36 y31.2.f0.f0.length c37] T0) :: (C38 ++ (X8 ++ ((g16, .cells #[.string y2.f0, .string y2.f1, .int .i64 y2.f2, .slice A4 y2.f3.length c5, .slice A6 y2.f4.length c7] 24) :: ((gb1, .cells #[.int .i64 a2.f0, .string a2.f1.f0, .string a2.f1.f1, .int .i64 a2.f1.f2, .slice A2_4 a2.f1.f3.length n2_4, .slice A2_5 a2.f1.f4.length n2_5, .int .i64 a2.f2, .int .i64 a2.f3] 38) :: L))))))) (Reord.step1 (Upd.one _ (Upd.app _ (Upd.app _ (Upd.one _ (Upd.one _ (Upd.rm1 _ _)))))) (Reord.step (Upd.one _ (Upd.app _ (Upd.app _ (Upd.one _ (Upd.one _ (Upd.rmC _ _)))))) (Reord.step1 (Upd.rm1 _ _) (Reord.step (Upd.rmC _ _) (Reord.step (Upd.rmC _ _) (Reord.step1 (Upd.rm1 _ _) (Reord.step1 (Upd.rm1 _ _) (Reord.refl _)))))))) ?_
      refine gl_call (by kernel_rfl) (tocsinref26_Log_Put_walk (r := y40) (g0 := g1) (T0 := T1) (A0_0 := A1_0) (c0_0 := c1_0) (C0_0 := C1_0) (a0 := a1) (hO1_0.mono (Imm.trans hI15 hI35)) (hf2_4.mono (Imm.trans hI15 hI35)) (hf2_5.mono (Imm.trans hI15 hI35)) hx41 _) ?_
      rintro v I42 L43 hI44 ⟨A45, c46, C47, hO48, rfl, rfl⟩
      refine gl_toD (by kernel_rfl) ⟨hI44, (List.forall_mem_cons.2 ⟨(List.mem_cons_of_mem _ (List.mem_append_right _ (List.mem_cons_of_mem _ (List.mem_append_right _ (List.mem_append_right _ List.mem_cons_self))))), (List.forall_mem_cons.2 ⟨(List.mem_cons_of_mem _ (List.mem_append_right _ (List.mem_cons_of_mem _ (List.mem_append_right _ (List.mem_append_right _ (List.mem_cons_of_mem _ List.mem_cons_self)))))), (fun p hp => by cases hp)⟩)⟩)⟩ ?_
      refine gd_pure 2 [5, 7, 37] (K' := [(5, .pointer (some ⟨gb1, 0, none⟩)), (7, .pointer (some ⟨g16, 0, none⟩)), (37, .bool (y31.1 == y40.1))]) (s' := [(9, true), (10, true), (11, true)]) (CC.refl (List.forall_mem_cons.2 ⟨(List.mem_cons_of_mem _ (List.mem_append_right _ (List.mem_cons_of_mem _ (List.mem_append_right _ (List.mem_append_right _ List.mem_cons_self))))), (List.forall_mem_cons.2 ⟨(List.mem_cons_of_mem _ (List.mem_append_right _ (List.mem_cons_of_mem _ (List.mem_append_right _ (List.mem_append_right _ (List.mem_cons_of_mem _ List.mem_cons_self)))))), (fun p hp => by cases hp)⟩)⟩)) (by kernel_rfl) ?_
      refine gd_case 37 (b := (y31.1 == y40.1)) (by kernel_rfl) (fun hc49 => ?_) (fun hc49 => ?_)
      · have hj19 := cond_t hc49 hj19
        refine gd_q (v := .agg #[.string y2.f0, .string y2.f1, .int .i64 y2.f2, .slice A4 y2.f3.length c5, .slice A6 y2.f4.length c7]) (by kernel_rfl) (by kernel_rfl) (CC.refl (List.forall_mem_cons.2 ⟨(List.mem_cons_of_mem _ (List.mem_append_right _ (List.mem_cons_of_mem _ (List.mem_append_right _ (List.mem_append_right _ List.mem_cons_self))))), (List.forall_mem_cons.2 ⟨(List.mem_cons_of_mem _ (List.mem_append_right _ (List.mem_cons_of_mem _ (List.mem_append_right _ (List.mem_append_right _ (List.mem_cons_of_mem _ List.mem_cons_self)))))), (fun p hp => by cases hp)⟩)⟩)) (fun I' L' T hC kk => gl_loadB (T' := 24) (xp := (.tmp 7)) (v := .agg #[.string y2.f0, .string y2.f1, .int .i64 y2.f2, .slice A4 y2.f3.length c5, .slice A6 y2.f4.length c7]) (g := g16) (off := 0) (cs := #[.string y2.f0, .string y2.f1, .int .i64 y2.f2, .slice A4 y2.f3.length c5, .slice A6 y2.f4.length c7]) (e := 24) (fz := (0, 0)) (by kernel_rfl) (by kernel_rfl) (by kernel_rfl) (hC.sub _ List.mem_cons_self) (by kernel_rfl) kk) ?_
        refine gd_pure 1 [7, 37, 38, 39] (K' := [(7, .pointer (some ⟨g16, 0, none⟩)), (37, .bool true), (38, .agg #[.string y2.f0, .string y2.f1, .int .i64 y2.f2, .slice A4 y2.f3.length c5, .slice A6 y2.f4.length c7]), (39, .pointer (some ⟨gb1, 1, none⟩))]) (s' := [(11, true)]) (CC.refl (List.forall_mem_cons.2 ⟨(List.mem_cons_of_mem _ (List.mem_append_right _ (List.mem_cons_of_mem _ (List.mem_append_right _ (List.mem_append_right _ List.mem_cons_self))))), (List.forall_mem_cons.2 ⟨(List.mem_cons_of_mem _ (List.mem_append_right _ (List.mem_cons_of_mem _ (List.mem_append_right _ (List.mem_append_right _ (List.mem_cons_of_mem _ List.mem_cons_self)))))), (fun p hp => by cases hp)⟩)⟩)) (by kernel_rfl) ?_
        refine gd_q (v := .agg #[.string a2.f1.f0, .string a2.f1.f1, .int .i64 a2.f1.f2, .slice A2_4 a2.f1.f3.length n2_4, .slice A2_5 a2.f1.f4.length n2_5]) (by kernel_rfl) (by kernel_rfl) (CC.refl (List.forall_mem_cons.2 ⟨(List.mem_cons_of_mem _ (List.mem_append_right _ (List.mem_cons_of_mem _ (List.mem_append_right _ (List.mem_append_right _ List.mem_cons_self))))), (List.forall_mem_cons.2 ⟨(List.mem_cons_of_mem _ (List.mem_append_right _ (List.mem_cons_of_mem _ (List.mem_append_right _ (List.mem_append_right _ (List.mem_cons_of_mem _ List.mem_cons_self)))))), (fun p hp => by cases hp)⟩)⟩)) (fun I' L' T hC kk => gl_loadB (T' := 24) (xp := (.tmp 39)) (v := .agg #[.string a2.f1.f0, .string a2.f1.f1, .int .i64 a2.f1.f2, .slice A2_4 a2.f1.f3.length n2_4, .slice A2_5 a2.f1.f4.length n2_5]) (g := gb1) (off := 1) (cs := #[.int .i64 a2.f0, .string a2.f1.f0, .string a2.f1.f1, .int .i64 a2.f1.f2, .slice A2_4 a2.f1.f3.length n2_4, .slice A2_5 a2.f1.f4.length n2_5, .int .i64 a2.f2, .int .i64 a2.f3]) (e := 38) (fz := (0, 0)) (by kernel_rfl) (by kernel_rfl) (by kernel_rfl) (hC.sub _ (List.mem_cons_of_mem _ List.mem_cons_self)) (by kernel_rfl) kk) ?_
        refine gd_done ?_
        obtain ⟨y50, hx51, hj19⟩ := bind_some hj19
        refine gl_callB (r := .bool y50) (Tk.step (Upd.one _ (Upd.app _ (Upd.one _ (Upd.app _ (Upd.rmC _ _))))) (Tk.nil _)) (by kernel_rfl) (fun J hJ hC => tocsinref26_Same_walk (r := y50) (hf9.mono (adds_le (Imm.trans (Imm.trans hI35 hI44) hJ) hC.left)) (hf10.mono (adds_le (Imm.trans (Imm.trans hI35 hI44) hJ) hC.left)) (hf2_4.mono (Imm.trans (Imm.trans (Imm.trans hI15 hI35) hI44) hJ)) (hf2_5.mono (Imm.trans (Imm.trans (Imm.trans hI15 hI35) hI44) hJ)) hx51 _) ?_
        refine gl_pure 2 [7, 8] (K' := [(7, .pointer (some ⟨g16, 0, none⟩)), (8, .bool y50)]) (by kernel_rfl) ?_
        refine gl_reord (D := C38 ++ (C47 ++ ((g16, .cells #[.string y2.f0, .string y2.f1, .int .i64 y2.f2, .slice A4 y2.f3.length c5, .slice A6 y2.f4.length c7] 24) :: (X8 ++ ((g0, .cells #[.slice A36 y31.2.f0.f0.length c37] T0) :: ((g1, .cells #[.slice A45 y40.2.f0.length c46] T1) :: L)))))) (Reord.step (Upd.one _ (Upd.app _ (Upd.one _ (Upd.rmC _ _)))) (Reord.step (Upd.one _ (Upd.rmC _ _)) (Reord.step1 (Upd.one _ (Upd.one _ (Upd.app _ (Upd.rm1 _ _)))) (Reord.step (Upd.one _ (Upd.one _ (Upd.rmC _ _))) (Reord.step1 (Upd.one _ (Upd.rm1 _ _)) (Reord.step1 (Upd.rm1 _ _) (Reord.skip (Reord.refl _)))))))) ?_
        refine gl_atE (by kernel_rfl) ?_
        obtain rfl := some_inj hj19
        exact ge_mid fun t ht => ⟨A36, c37, C38, A45, c46, C47, (hO39.mono hI44), hO48, (Imm.trans hI35 hI44), rfl, ht.pick (l := [7, 8]) (by kernel_rfl)⟩
      · have hj19 := cond_f hc49 hj19
        refine gd_pure 3 [7, 37, 38, 40] (K' := [(7, .pointer (some ⟨g16, 0, none⟩)), (37, .bool false), (38, undef), (40, undef)]) (s' := []) (CC.refl (List.forall_mem_cons.2 ⟨(List.mem_cons_of_mem _ (List.mem_append_right _ (List.mem_cons_of_mem _ (List.mem_append_right _ (List.mem_append_right _ List.mem_cons_self))))), (List.forall_mem_cons.2 ⟨(List.mem_cons_of_mem _ (List.mem_append_right _ (List.mem_cons_of_mem _ (List.mem_append_right _ (List.mem_append_right _ (List.mem_cons_of_mem _ List.mem_cons_self)))))), (fun p hp => by cases hp)⟩)⟩)) (by kernel_rfl) ?_
        refine gd_done ?_
        refine gl_pure 3 [7, 8] (K' := [(7, .pointer (some ⟨g16, 0, none⟩)), (8, .bool false)]) (by kernel_rfl) ?_
        refine gl_reord (D := C38 ++ (C47 ++ ((g16, .cells #[.string y2.f0, .string y2.f1, .int .i64 y2.f2, .slice A4 y2.f3.length c5, .slice A6 y2.f4.length c7] 24) :: (X8 ++ ((g0, .cells #[.slice A36 y31.2.f0.f0.length c37] T0) :: ((g1, .cells #[.slice A45 y40.2.f0.length c46] T1) :: L)))))) (Reord.step (Upd.one _ (Upd.app _ (Upd.one _ (Upd.rmC _ _)))) (Reord.step (Upd.one _ (Upd.rmC _ _)) (Reord.step1 (Upd.one _ (Upd.one _ (Upd.app _ (Upd.rm1 _ _)))) (Reord.step (Upd.one _ (Upd.one _ (Upd.rmC _ _))) (Reord.step1 (Upd.one _ (Upd.rm1 _ _)) (Reord.step1 (Upd.rm1 _ _) (Reord.skip (Reord.refl _)))))))) ?_
        refine gl_atE (by kernel_rfl) ?_
        obtain rfl := some_inj hj19
        exact ge_mid fun t ht => ⟨A36, c37, C38, A45, c46, C47, (hO39.mono hI44), hO48, (Imm.trans hI35 hI44), rfl, ht.pick (l := [7, 8]) (by kernel_rfl)⟩
    · rintro t I30 L' ⟨A21, n22, C23, A25, n26, C27, hO24, hO28, hI20, rfl, hK29⟩
      refine ge_at hK29 ?_
      refine ge_seq ?_
      refine gk_seq (by kernel_rfl) ?_
      refine gk_region (by kernel_rfl) ?_
      refine gl_pure 1 [7, 8, 43] (K' := [(7, .pointer (some ⟨g16, 0, none⟩)), (8, .bool j18.1), (43, .pointer (some ⟨g16, 3, none⟩))]) (by kernel_rfl) ?_
      refine gl_loadB (T' := 22) (xp := (.tmp 43)) (v := .slice A4 y2.f3.length c5) (g := g16) (off := 3) (cs := #[.string y2.f0, .string y2.f1, .int .i64 y2.f2, .slice A4 y2.f3.length c5, .slice A6 y2.f4.length c7]) (e := 24) (fz := (0, 0)) (by kernel_rfl) (by kernel_rfl) (by kernel_rfl) (List.mem_append_right _ (List.mem_append_right _ List.mem_cons_self)) (by kernel_rfl) ?_
      refine gl_reord (D := X8 ++ (C23 ++ (C27 ++ ((g16, .cells #[.string y2.f0, .string y2.f1, .int .i64 y2.f2, .slice A4 y2.f3.length c5, .slice A6 y2.f4.length c7] 24) :: ((g0, .cells #[.slice A21 j18.2.1.length n22] T0) :: ((g1, .cells #[.slice A25 j18.2.2.length n26] T1) :: L)))))) (Reord.step (Upd.app _ (Upd.app _ (Upd.one _ (Upd.rmC _ _)))) (Reord.step (Upd.rmC _ _) (Reord.step (Upd.rmC _ _) (Reord.step1 (Upd.rm1 _ _) (Reord.step1 (Upd.rm1 _ _) (Reord.step1 (Upd.rm1 _ _) (Reord.refl _))))))) ?_
      refine gl_call (by kernel_rfl) (tocsinlaw26_spoil_walkX (X := X8) (c0 := c5) hs11 _) ?_
      rintro v I54 L55 hI56 ⟨X52, hl53, rfl, rfl⟩
      refine gl_atE (by kernel_rfl) ?_
      refine ge_seq ?_
      refine gk_seq (by kernel_rfl) ?_
      refine gk_region (by kernel_rfl) ?_
      refine gl_pure 1 [8, 46] (K' := [(8, .bool j18.1), (46, .pointer (some ⟨g16, 4, none⟩))]) (by kernel_rfl) ?_
      refine gl_loadB (T' := 22) (xp := (.tmp 46)) (v := .slice A6 y2.f4.length c7) (g := g16) (off := 4) (cs := #[.string y2.f0, .string y2.f1, .int .i64 y2.f2, .slice A4 y2.f3.length c5, .slice A6 y2.f4.length c7]) (e := 24) (fz := (0, 0)) (by kernel_rfl) (by kernel_rfl) (by kernel_rfl) (List.mem_append_right _ (List.mem_append_right _ (List.mem_append_right _ List.mem_cons_self))) (by kernel_rfl) ?_
      refine gl_call (by kernel_rfl) (tocsinlaw26_spoil_walkX (X := X52) (c0 := c7) (hl53 _ _ hs12) _) ?_
      rintro v I59 L60 hI61 ⟨X57, hl58, rfl, rfl⟩
      refine gl_atE (by kernel_rfl) ?_
      refine ge_seq ?_
      refine gk_seq (by kernel_rfl) ?_
      refine gk_region (by kernel_rfl) ?_
      refine gl_pure 2 [6] (K' := [(6, .bool j18.1)]) (by kernel_rfl) ?_
      refine gl_atE (by kernel_rfl) ?_
      refine ge_seq ?_
      refine gk_reord (D := (g0, .cells #[.slice A21 j18.2.1.length n22] T0) :: (C23 ++ ((g1, .cells #[.slice A25 j18.2.2.length n26] T1) :: (C27 ++ L)))) (Reord.step1 (Upd.app _ (Upd.app _ (Upd.app _ (Upd.one _ (Upd.rm1 _ _))))) (Reord.step (Upd.app _ (Upd.rmC _ _)) (Reord.step1 (Upd.app _ (Upd.app _ (Upd.one _ (Upd.rm1 _ _)))) (Reord.step (Upd.app _ (Upd.rmC _ _)) (Reord.skipC (Reord.skip (Reord.refl _))))))) ?_
      refine gk_ret (by kernel_rfl) ?_
      refine ge_block_ret ?_
      refine ge_seq_ret ?_
      obtain rfl := some_inj hr
      exact ge_result trivial (ResOk.tmp (by kernel_rfl) ResOk.nil) (Imm.trans (Imm.trans (Imm.trans hI15 hI20) hI56) hI61) ⟨A21, n22, C23, A25, n26, C27, (hO24.mono (Imm.trans hI56 hI61)), (hO28.mono (Imm.trans hI56 hI61)), rfl, rfl⟩
  · have hr := cond_f hc17 hr
    refine gk_seq (by kernel_rfl) ?_
    refine gk_region (by kernel_rfl) ?_
    refine gl_pure 2 [0, 1, 5, 7, 26, 50] (K' := [(0, .pointer (some ⟨g0, 0, none⟩)), (1, .pointer (some ⟨g1, 0, none⟩)), (5, .pointer (some ⟨gb1, 0, none⟩)), (7, .pointer (some ⟨g16, 0, none⟩)), (26, .int .i64 a2.f0), (50, .bool (a2.f0 == 1))]) (by kernel_rfl) ?_
    refine gl_atE (by kernel_rfl) ?_
    refine ge_seq ?_
    refine gk_cond (b := (a2.f0 == 1)) (by kernel_rfl) (by kernel_rfl) (fun hc62 => ?_) (fun hc62 => ?_)
    · have hr := cond_t hc62 hr
      cases hr
    · have hr := cond_f hc62 hr
      refine gk_seq (by kernel_rfl) ?_
      refine gk_region (by kernel_rfl) ?_
      refine gl_pure 2 [0, 1, 5, 7, 26, 84] (K' := [(0, .pointer (some ⟨g0, 0, none⟩)), (1, .pointer (some ⟨g1, 0, none⟩)), (5, .pointer (some ⟨gb1, 0, none⟩)), (7, .pointer (some ⟨g16, 0, none⟩)), (26, .int .i64 a2.f0), (84, .bool (a2.f0 == 2))]) (by kernel_rfl) ?_
      refine gl_atE (by kernel_rfl) ?_
      refine ge_seq ?_
      refine gk_cond (b := (a2.f0 == 2)) (by kernel_rfl) (by kernel_rfl) (fun hc95 => ?_) (fun hc95 => ?_)
      · have hr := cond_t hc95 hr
        cases hr
      · have hr := cond_f hc95 hr
        refine gk_seq (by kernel_rfl) ?_
        refine gk_region (by kernel_rfl) ?_
        refine gl_pure 2 [0, 1, 5, 132] (K' := [(0, .pointer (some ⟨g0, 0, none⟩)), (1, .pointer (some ⟨g1, 0, none⟩)), (5, .pointer (some ⟨gb1, 0, none⟩)), (132, .bool (a2.f0 == 3))]) (by kernel_rfl) ?_
        refine gl_atE (by kernel_rfl) ?_
        refine ge_seq ?_
        refine gk_cond (b := (a2.f0 == 3)) (by kernel_rfl) (by kernel_rfl) (fun hc96 => ?_) (fun hc96 => ?_)
        · have hr := cond_t hc96 hr
          refine gk_seq (by kernel_rfl) ?_
          refine gk_region (by kernel_rfl) ?_
          refine gl_pure 2 [1, 5, 135, 136] (K' := [(1, .pointer (some ⟨g1, 0, none⟩)), (5, .pointer (some ⟨gb1, 0, none⟩)), (135, .pointer (some ⟨g0, 0, none⟩)), (136, .pointer (some ⟨gb1, 6, none⟩))]) (by kernel_rfl) ?_
          refine gl_loadB (T' := 2) (xp := (.tmp 136)) (v := .int .i64 a2.f2) (g := gb1) (off := 6) (cs := #[.int .i64 a2.f0, .string a2.f1.f0, .string a2.f1.f1, .int .i64 a2.f1.f2, .slice A2_4 a2.f1.f3.length n2_4, .slice A2_5 a2.f1.f4.length n2_5, .int .i64 a2.f2, .int .i64 a2.f3]) (e := 38) (fz := (0, 0)) (by kernel_rfl) (by kernel_rfl) (by kernel_rfl) (List.mem_cons_of_mem _ (List.mem_append_right _ List.mem_cons_self)) (by kernel_rfl) ?_
          refine gl_pure 1 [1, 5, 135, 137, 138] (K' := [(1, .pointer (some ⟨g1, 0, none⟩)), (5, .pointer (some ⟨gb1, 0, none⟩)), (135, .pointer (some ⟨g0, 0, none⟩)), (137, .int .i64 a2.f2), (138, .pointer (some ⟨gb1, 7, none⟩))]) (by kernel_rfl) ?_
          refine gl_loadB (T' := 2) (xp := (.tmp 138)) (v := .int .i64 a2.f3) (g := gb1) (off := 7) (cs := #[.int .i64 a2.f0, .string a2.f1.f0, .string a2.f1.f1, .int .i64 a2.f1.f2, .slice A2_4 a2.f1.f3.length n2_4, .slice A2_5 a2.f1.f4.length n2_5, .int .i64 a2.f2, .int .i64 a2.f3]) (e := 38) (fz := (0, 0)) (by kernel_rfl) (by kernel_rfl) (by kernel_rfl) (List.mem_cons_of_mem _ (List.mem_append_right _ List.mem_cons_self)) (by kernel_rfl) ?_
          obtain ⟨y97, hx98, hr⟩ := bind_some hr
          refine gl_reord (D := (g0, .cells #[.slice A0_0 a0.f0.f0.length c0_0] T0) :: (C0_0 ++ ((g16, .cells #[.string y2.f0, .string y2.f1, .int .i64 y2.f2, .slice A4 y2.f3.length c5, .slice A6 y2.f4.length c7] 24) :: (X8 ++ ((gb1, .cells #[.int .i64 a2.f0, .string a2.f1.f0, .string a2.f1.f1, .int .i64 a2.f1.f2, .slice A2_4 a2.f1.f3.length n2_4, .slice A2_5 a2.f1.f4.length n2_5, .int .i64 a2.f2, .int .i64 a2.f3] 38) :: ((g1, .cells #[.slice A1_0 a1.f0.length c1_0] T1) :: (C1_0 ++ L))))))) (Reord.step1 (Upd.one _ (Upd.app _ (Upd.one _ (Upd.rm1 _ _)))) (Reord.step (Upd.one _ (Upd.app _ (Upd.one _ (Upd.rmC _ _)))) (Reord.step1 (Upd.rm1 _ _) (Reord.step (Upd.rmC _ _) (Reord.step1 (Upd.rm1 _ _) (Reord.step1 (Upd.rm1 _ _) (Reord.step (Upd.rmC _ _) (Reord.refl _)))))))) ?_
          refine gl_call (by kernel_rfl) (nflog_Log_Sweep_walk (r := y97) (g0 := g0) (T0 := T0) (A0_0 := A0_0) (c0_0 := c0_0) (C0_0 := C0_0) (a0 := a0) (hO0_0.mono hI15) hx98 _) ?_
          rintro v I99 L100 hI101 ⟨A102, c103, C104, hO105, rfl, rfl⟩
          refine gl_pure 5 [1, 5, 18, 19] (K' := [(1, .pointer (some ⟨g1, 0, none⟩)), (5, .pointer (some ⟨gb1, 0, none⟩)), (18, .int .i64 y97.1), (19, .int .i64 y97.2.1)]) (by kernel_rfl) ?_
          refine gl_atE (by kernel_rfl) ?_
          refine ge_seq ?_
          refine gk_seq (by kernel_rfl) ?_
          refine gk_region (by kernel_rfl) ?_
          refine gl_pure 2 [5, 18, 19, 144, 145] (K' := [(5, .pointer (some ⟨gb1, 0, none⟩)), (18, .int .i64 y97.1), (19, .int .i64 y97.2.1), (144, .pointer (some ⟨g1, 0, none⟩)), (145, .pointer (some ⟨gb1, 6, none⟩))]) (by kernel_rfl) ?_
          refine gl_loadB (T' := 2) (xp := (.tmp 145)) (v := .int .i64 a2.f2) (g := gb1) (off := 6) (cs := #[.int .i64 a2.f0, .string a2.f1.f0, .string a2.f1.f1, .int .i64 a2.f1.f2, .slice A2_4 a2.f1.f3.length n2_4, .slice A2_5 a2.f1.f4.length n2_5, .int .i64 a2.f2, .int .i64 a2.f3]) (e := 38) (fz := (0, 0)) (by kernel_rfl) (by kernel_rfl) (by kernel_rfl) (List.mem_cons_of_mem _ (List.mem_append_right _ (List.mem_cons_of_mem _ (List.mem_append_right _ List.mem_cons_self)))) (by kernel_rfl) ?_
          refine gl_pure 1 [18, 19, 144, 146, 147] (K' := [(18, .int .i64 y97.1), (19, .int .i64 y97.2.1), (144, .pointer (some ⟨g1, 0, none⟩)), (146, .int .i64 a2.f2), (147, .pointer (some ⟨gb1, 7, none⟩))]) (by kernel_rfl) ?_
          refine gl_loadB (T' := 2) (xp := (.tmp 147)) (v := .int .i64 a2.f3) (g := gb1) (off := 7) (cs := #[.int .i64 a2.f0, .string a2.f1.f0, .string a2.f1.f1, .int .i64 a2.f1.f2, .slice A2_4 a2.f1.f3.length n2_4, .slice A2_5 a2.f1.f4.length n2_5, .int .i64 a2.f2, .int .i64 a2.f3]) (e := 38) (fz := (0, 0)) (by kernel_rfl) (by kernel_rfl) (by kernel_rfl) (List.mem_cons_of_mem _ (List.mem_append_right _ (List.mem_cons_of_mem _ (List.mem_append_right _ List.mem_cons_self)))) (by kernel_rfl) ?_
          obtain ⟨y106, hx107, hr⟩ := bind_some hr
          refine gl_reord (D := (g1, .cells #[.slice A1_0 a1.f0.length c1_0] T1) :: (C1_0 ++ ((g0, .cells #[.slice A102 y97.2.2.f0.f0.length c103] T0) :: (C104 ++ ((g16, .cells #[.string y2.f0, .string y2.f1, .int .i64 y2.f2, .slice A4 y2.f3.length c5, .slice A6 y2.f4.length c7] 24) :: (X8 ++ ((gb1, .cells #[.int .i64 a2.f0, .string a2.f1.f0, .string a2.f1.f1, .int .i64 a2.f1.f2, .slice A2_4 a2.f1.f3.length n2_4, .slice A2_5 a2.f1.f4.length n2_5, .int .i64 a2.f2, .int .i64 a2.f3] 38) :: L))))))) (Reord.step1 (Upd.one _ (Upd.app _ (Upd.one _ (Upd.app _ (Upd.one _ (Upd.rm1 _ _)))))) (Reord.step (Upd.one _ (Upd.app _ (Upd.one _ (Upd.app _ (Upd.one _ (Upd.rmC _ _)))))) (Reord.step1 (Upd.rm1 _ _) (Reord.step (Upd.rmC _ _) (Reord.step1 (Upd.rm1 _ _) (Reord.step (Upd.rmC _ _) (Reord.step1 (Upd.rm1 _ _) (Reord.refl _)))))))) ?_
          refine gl_call (by kernel_rfl) (tocsinref26_Log_Sweep_walk (r := y106) (g0 := g1) (T0 := T1) (A0_0 := A1_0) (c0_0 := c1_0) (C0_0 := C1_0) (a0 := a1) (hO1_0.mono (Imm.trans hI15 hI101)) hx107 _) ?_
          rintro v I108 L109 hI110 ⟨A111, c112, C113, hO114, rfl, rfl⟩
          refine gl_pure 5 [18, 19, 20, 21] (K' := [(18, .int .i64 y97.1), (19, .int .i64 y97.2.1), (20, .int .i64 y106.1), (21, .int .i64 y106.2.1)]) (by kernel_rfl) ?_
          refine gl_atE (by kernel_rfl) ?_
          refine ge_seq ?_
          refine gk_seq (by kernel_rfl) ?_
          obtain ⟨b117, hb118⟩ : ∃ z, z = ((y97.1 == y106.1) && (y97.2.1 == y106.2.1)) := ⟨_, rfl⟩
          refine gk_join (fun t I' L' => I108 ≤ I' ∧ (g1, .cells #[.slice A111 y106.2.2.f0.length c112] T1) :: (C113 ++ ((g0, .cells #[.slice A102 y97.2.2.f0.f0.length c103] T0) :: (C104 ++ ((g16, .cells #[.string y2.f0, .string y2.f1, .int .i64 y2.f2, .slice A4 y2.f3.length c5, .slice A6 y2.f4.length c7] 24) :: (X8 ++ ((gb1, .cells #[.int .i64 a2.f0, .string a2.f1.f0, .string a2.f1.f1, .int .i64 a2.f1.f2, .slice A2_4 a2.f1.f3.length n2_4, .slice A2_5 a2.f1.f4.length n2_5, .int .i64 a2.f2, .int .i64 a2.f3] 38) :: L)))))) = L' ∧ Knows 160 [(6, .bool b117)] t) ?_ ?_
          · refine gk_region (by kernel_rfl) ?_
            refine gl_pure 4 [19, 21, 155] (K' := [(19, .int .i64 y97.2.1), (21, .int .i64 y106.2.1), (155, .bool (y97.1 == y106.1))]) (by kernel_rfl) ?_
            refine gl_case 155 (b := (y97.1 == y106.1)) (by kernel_rfl) (fun hc120 => ?_) (fun hc120 => ?_)
            · refine gl_pure 5 [6] (K' := [(6, .bool (y97.2.1 == y106.2.1))]) (by kernel_rfl) ?_
              refine gl_atE (by kernel_rfl) ?_
              exact ge_mid fun t ht => ⟨(Imm.refl _), rfl, by rw [(show b117 = (y97.2.1 == y106.2.1) from hb118.trans (by first | (rw [hc120]; done) | (rw [hc120]; rfl) | (simp [hc120]; done) | (simp only [hc120]; rfl) | (simp at *; omega)))]; exact ht.pick (l := [6]) (by kernel_rfl)⟩
            · refine gl_pure 5 [6] (K' := [(6, .bool false)]) (by kernel_rfl) ?_
              refine gl_atE (by kernel_rfl) ?_
              exact ge_mid fun t ht => ⟨(Imm.refl _), rfl, by rw [(show b117 = false from hb118.trans (by first | (rw [hc120]; done) | (rw [hc120]; rfl) | (simp [hc120]; done) | (simp only [hc120]; rfl) | (simp at *; omega)))]; exact ht.pick (l := [6]) (by kernel_rfl)⟩
          · rintro t I119 L' ⟨hI115, rfl, hK116⟩
            subst hb118
            refine ge_at hK116 ?_
            refine ge_seq ?_
            refine gk_reord (D := (g0, .cells #[.slice A102 y97.2.2.f0.f0.length c103] T0) :: (C104 ++ ((g1, .cells #[.slice A111 y106.2.2.f0.length c112] T1) :: (C113 ++ L)))) (Reord.step1 (Upd.one _ (Upd.app _ (Upd.rm1 _ _))) (Reord.step (Upd.one _ (Upd.app _ (Upd.rmC _ _))) (Reord.step1 (Upd.rm1 _ _) (Reord.step (Upd.rmC _ _) (Reord.skip (Reord.skipC (Reord.skip (Reord.refl _)))))))) ?_
            refine gk_ret (by kernel_rfl) ?_
            refine ge_block_ret ?_
            refine ge_seq_ret ?_
            obtain rfl := some_inj hr
            exact ge_result trivial (ResOk.tmp (by kernel_rfl) ResOk.nil) (Imm.trans (Imm.trans (Imm.trans hI15 hI101) hI110) hI115) ⟨A102, c103, C104, A111, c112, C113, (hO105.mono (Imm.trans hI110 hI115)), (hO114.mono hI115), rfl, rfl⟩
        · have hr := cond_f hc96 hr
          refine gk_skip (by kernel_rfl) ?_
          refine ge_block_normal ?_
          refine ge_seq ?_
          refine gk_seq (by kernel_rfl) ?_
          refine gk_region (by kernel_rfl) ?_
          refine gl_pure 1 [6] (K' := [(6, .bool true)]) (by kernel_rfl) ?_
          refine gl_atE (by kernel_rfl) ?_
          refine ge_seq ?_
          refine gk_reord (D := (g0, .cells #[.slice A0_0 a0.f0.f0.length c0_0] T0) :: (C0_0 ++ ((g1, .cells #[.slice A1_0 a1.f0.length c1_0] T1) :: (C1_0 ++ L)))) (Reord.step1 (Upd.one _ (Upd.app _ (Upd.one _ (Upd.rm1 _ _)))) (Reord.step (Upd.one _ (Upd.app _ (Upd.one _ (Upd.rmC _ _)))) (Reord.step1 (Upd.one _ (Upd.app _ (Upd.one _ (Upd.rm1 _ _)))) (Reord.step (Upd.one _ (Upd.app _ (Upd.one _ (Upd.rmC _ _)))) (Reord.skip (Reord.skipC (Reord.skip (Reord.refl _)))))))) ?_
          refine gk_ret (by kernel_rfl) ?_
          obtain rfl := some_inj hr
          exact ge_result trivial (ResOk.tmp (by kernel_rfl) ResOk.nil) hI15 ⟨A0_0, c0_0, C0_0, A1_0, c1_0, C1_0, (hO0_0.mono hI15), (hO1_0.mono hI15), rfl, rfl⟩
/-! 9 tocsinlaw26_awake  -/
noncomputable def tocsinlaw26_awake : Option Bool :=
  Option.bind (nflog_Log_Needs (⟨(⟨nflog_New.f0.f0⟩ : S43)⟩ : S45) (⟨#[116, 101, 97, 109]⟩ : ByteArray) (⟨#[107]⟩ : ByteArray) 100 50 [[(⟨(⟨#[97]⟩ : ByteArray), (⟨#[49]⟩ : ByteArray)⟩ : S53)]] []) fun (y25 : Bool × Int) =>
  Option.bind (nflog_Log_Put (⟨(⟨nflog_New.f0.f0⟩ : S43)⟩ : S45) (⟨(⟨#[116, 101, 97, 109]⟩ : ByteArray), (⟨#[107]⟩ : ByteArray), 100, [[(⟨(⟨#[97]⟩ : ByteArray), (⟨#[49]⟩ : ByteArray)⟩ : S53)]], []⟩ : S23)) fun (y30 : Int × S45) =>
  Option.bind (nflog_Log_Needs y30.2 (⟨#[116, 101, 97, 109]⟩ : ByteArray) (⟨#[107]⟩ : ByteArray) 120 50 [[(⟨(⟨#[97]⟩ : ByteArray), (⟨#[49]⟩ : ByteArray)⟩ : S53)]] []) fun (y39 : Bool × Int) =>
  Option.bind (nflog_Log_Needs y30.2 (⟨#[116, 101, 97, 109]⟩ : ByteArray) (⟨#[107]⟩ : ByteArray) 150 50 [[(⟨(⟨#[97]⟩ : ByteArray), (⟨#[49]⟩ : ByteArray)⟩ : S53)]] []) fun (y44 : Bool × Int) =>
  some ((((((y25.1 && (y25.2 == 0)) && (y30.1 == 0)) && (!y39.1)) && (y39.2 == 0)) && y44.1) && (y44.2 == 0))
theorem tocsinlaw26_awake_walk  {I : Imm} {r : Bool} (hG : Gl I) (hr : tocsinlaw26_awake = some r) (L : Own) :
    CallsTo Tryd.prog 9 #[] I L (fun v I' L' => v = .bool r ∧ L = L') := by
  unfold tocsinlaw26_awake at hr
  refine callsTo_body (N := 62) Tryd.func9 (by kernel_rfl) (by kernel_rfl) (by kernel_rfl) ?_
  refine gk_pick [] (K' := []) (by kernel_rfl) ?_
  refine gk_seq (by kernel_rfl) ?_
  refine gk_region (by kernel_rfl) ?_
  refine gl_pure 1 [] (K' := []) (by kernel_rfl) ?_
  refine gl_atE (by kernel_rfl) ?_
  refine ge_seq ?_
  refine gk_seq (by kernel_rfl) ?_
  refine gk_region (by kernel_rfl) ?_
  refine gl_call (by kernel_rfl) (nflog_New_walk (r := nflog_New)  rfl _) ?_
  rintro v I1 L2 hI3 ⟨g4, A5, c6, C7, hO8, rfl, rfl⟩
  refine gl_pure 1 [1] (K' := [(1, .pointer (some ⟨g4, 0, none⟩))]) (by kernel_rfl) ?_
  refine gl_atE (by kernel_rfl) ?_
  refine ge_seq ?_
  refine gk_seq (by kernel_rfl) ?_
  refine gk_seq (by kernel_rfl) ?_
  refine gk_region (by kernel_rfl) ?_
  refine gl_pure 2 [1, 12] (K' := [(1, .pointer (some ⟨g4, 0, none⟩)), (12, .bool false)]) (by kernel_rfl) ?_
  refine gl_atE (by kernel_rfl) ?_
  refine ge_seq ?_
  refine gk_cond (b := false) (by kernel_rfl) (by kernel_rfl) (fun h => by cases h) (fun _ => ?_)
  refine gk_skip (by kernel_rfl) ?_
  refine ge_seq ?_
  refine gk_seq (by kernel_rfl) ?_
  refine gk_region (by kernel_rfl) ?_
  refine gl_pure 1 [1, 13] (K' := [(1, .pointer (some ⟨g4, 0, none⟩)), (13, .agg #[.string (⟨#[97]⟩ : ByteArray), .string (⟨#[49]⟩ : ByteArray)])]) (by kernel_rfl) ?_
  refine gl_buildSlice (T' := 25) (e := 54) (n := 2) (len := 1) (parts := #[(0, (.tmp 13))]) (l := [(0, .agg #[.string (⟨#[97]⟩ : ByteArray), .string (⟨#[49]⟩ : ByteArray)])]) (cs := #[.string (⟨#[97]⟩ : ByteArray), .string (⟨#[49]⟩ : ByteArray)]) (by kernel_rfl) (by kernel_rfl) (by kernel_rfl) (by kernel_rfl) (by kernel_rfl) (fun g9 => ?_)
  have hO10 : OwnS kS53 54 I1 (some ⟨g9, 0, none⟩) 1 [(⟨(⟨#[97]⟩ : ByteArray), (⟨#[49]⟩ : ByteArray)⟩ : S53)] [(g9, .cells #[.string (⟨#[97]⟩ : ByteArray), .string (⟨#[49]⟩ : ByteArray)] 54)] := OwnS.lit (row_cons (l := [.string (⟨#[97]⟩ : ByteArray), .string (⟨#[49]⟩ : ByteArray)]) (kS53_mk (x := (⟨(⟨#[97]⟩ : ByteArray), (⟨#[49]⟩ : ByteArray)⟩ : S53)) ) (row_nil _ _)) rfl rfl rfl
  refine gl_reord (D := [(g9, .cells #[.string (⟨#[97]⟩ : ByteArray), .string (⟨#[49]⟩ : ByteArray)] 54)] ++ ((g4, .cells #[.slice A5 nflog_New.f0.f0.length c6] 46) :: (C7 ++ L))) (Reord.refl _) ?_
  refine gl_rest (Tk.step (Upd.rmC _ _) (Tk.nil _)) (fun J13 hJ14 hC15 => ?_)
  have hf16 := (OwnS.rest hO10 hJ14 hC15.left)
  refine gl_buildSlice (T' := 22) (e := 25) (n := 1) (len := 1) (parts := #[(0, (.tmp 14))]) (l := [(0, .slice (some ⟨g9, 0, none⟩) [(⟨(⟨#[97]⟩ : ByteArray), (⟨#[49]⟩ : ByteArray)⟩ : S53)].length 1)]) (cs := #[.slice (some ⟨g9, 0, none⟩) [(⟨(⟨#[97]⟩ : ByteArray), (⟨#[49]⟩ : ByteArray)⟩ : S53)].length 1]) (by kernel_rfl) (by kernel_rfl) (by kernel_rfl) (by kernel_rfl) (by kernel_rfl) (fun g17 => ?_)
  have hO18 : OwnS (Kd.sl kS53) 25 J13 (some ⟨g17, 0, none⟩) 1 [[(⟨(⟨#[97]⟩ : ByteArray), (⟨#[49]⟩ : ByteArray)⟩ : S53)]] [(g17, .cells #[.slice (some ⟨g9, 0, none⟩) [(⟨(⟨#[97]⟩ : ByteArray), (⟨#[49]⟩ : ByteArray)⟩ : S53)].length 1] 25)] := OwnS.lit (row_cons (l := [.slice (some ⟨g9, 0, none⟩) [(⟨(⟨#[97]⟩ : ByteArray), (⟨#[49]⟩ : ByteArray)⟩ : S53)].length 1]) ⟨_, _, rfl, hf16⟩ (row_nil _ _)) rfl rfl rfl
  refine gl_reord (D := [(g17, .cells #[.slice (some ⟨g9, 0, none⟩) [(⟨(⟨#[97]⟩ : ByteArray), (⟨#[49]⟩ : ByteArray)⟩ : S53)].length 1] 25)] ++ ((g4, .cells #[.slice A5 nflog_New.f0.f0.length c6] 46) :: (C7 ++ L))) (Reord.refl _) ?_
  refine gl_pure 1 [1, 2] (K' := [(1, .pointer (some ⟨g4, 0, none⟩)), (2, .slice (some ⟨g17, 0, none⟩) [[(⟨(⟨#[97]⟩ : ByteArray), (⟨#[49]⟩ : ByteArray)⟩ : S53)]].length 1)]) (by kernel_rfl) ?_
  refine gl_atE (by kernel_rfl) ?_
  refine ge_seq ?_
  refine gk_seq (by kernel_rfl) ?_
  refine gk_region (by kernel_rfl) ?_
  refine gl_pure 2 [1, 2, 17, 18] (K' := [(1, .pointer (some ⟨g4, 0, none⟩)), (2, .slice (some ⟨g17, 0, none⟩) [[(⟨(⟨#[97]⟩ : ByteArray), (⟨#[49]⟩ : ByteArray)⟩ : S53)]].length 1), (17, .pointer (some ⟨g4, 0, none⟩)), (18, .slice (some ⟨g17, 0, none⟩) [[(⟨(⟨#[97]⟩ : ByteArray), (⟨#[49]⟩ : ByteArray)⟩ : S53)]].length 1)]) (by kernel_rfl) ?_
  refine gl_rest (Tk.step (Upd.rmC _ _) (Tk.nil _)) (fun J21 hJ22 hC23 => ?_)
  have hf24 := (OwnS.rest hO18 hJ22 hC23.left)
  obtain ⟨y25, hx26, hr⟩ := bind_some hr
  refine gl_call (by kernel_rfl) (nflog_Log_Needs_walk (r := y25) (g0 := g4) (T0 := 46) (A0_0 := A5) (c0_0 := c6) (C0_0 := C7) (a0 := (⟨(⟨nflog_New.f0.f0⟩ : S43)⟩ : S45)) (hG.mono (Imm.trans (Imm.trans hI3 hJ14) hJ22)) (hO8.mono (Imm.trans hJ14 hJ22)) hf24 (RepS.nil _ _) hx26 _) ?_
  rintro v I27 L28 hI29 ⟨rfl, rfl⟩
  refine gl_pure 5 [1, 2, 3, 4] (K' := [(1, .pointer (some ⟨g4, 0, none⟩)), (2, .slice (some ⟨g17, 0, none⟩) [[(⟨(⟨#[97]⟩ : ByteArray), (⟨#[49]⟩ : ByteArray)⟩ : S53)]].length 1), (3, .bool y25.1), (4, .int .i64 y25.2)]) (by kernel_rfl) ?_
  refine gl_atE (by kernel_rfl) ?_
  refine ge_seq ?_
  refine gk_seq (by kernel_rfl) ?_
  refine gk_region (by kernel_rfl) ?_
  refine gl_pure 3 [1, 2, 3, 4, 22, 24] (K' := [(1, .pointer (some ⟨g4, 0, none⟩)), (2, .slice (some ⟨g17, 0, none⟩) [[(⟨(⟨#[97]⟩ : ByteArray), (⟨#[49]⟩ : ByteArray)⟩ : S53)]].length 1), (3, .bool y25.1), (4, .int .i64 y25.2), (22, .pointer (some ⟨g4, 0, none⟩)), (24, .agg #[.string (⟨#[116, 101, 97, 109]⟩ : ByteArray), .string (⟨#[107]⟩ : ByteArray), .int .i64 100, .slice (some ⟨g17, 0, none⟩) [[(⟨(⟨#[97]⟩ : ByteArray), (⟨#[49]⟩ : ByteArray)⟩ : S53)]].length 1, .slice none 0 0])]) (by kernel_rfl) ?_
  obtain ⟨y30, hx31, hr⟩ := bind_some hr
  refine gl_call (by kernel_rfl) (nflog_Log_Put_walk (r := y30) (g0 := g4) (T0 := 46) (A0_0 := A5) (c0_0 := c6) (C0_0 := C7) (a0 := (⟨(⟨nflog_New.f0.f0⟩ : S43)⟩ : S45)) (hG.mono (Imm.trans (Imm.trans (Imm.trans hI3 hJ14) hJ22) hI29)) (hO8.mono (Imm.trans (Imm.trans hJ14 hJ22) hI29)) (hf24.mono hI29) (RepS.nil _ _) hx31 _) ?_
  rintro v I32 L33 hI34 ⟨A35, c36, C37, hO38, rfl, rfl⟩
  refine gl_pure 1 [1, 2, 3, 4, 5] (K' := [(1, .pointer (some ⟨g4, 0, none⟩)), (2, .slice (some ⟨g17, 0, none⟩) [[(⟨(⟨#[97]⟩ : ByteArray), (⟨#[49]⟩ : ByteArray)⟩ : S53)]].length 1), (3, .bool y25.1), (4, .int .i64 y25.2), (5, .int .i64 y30.1)]) (by kernel_rfl) ?_
  refine gl_atE (by kernel_rfl) ?_
  refine ge_seq ?_
  refine gk_seq (by kernel_rfl) ?_
  refine gk_region (by kernel_rfl) ?_
  refine gl_pure 2 [1, 2, 3, 4, 5, 27, 28] (K' := [(1, .pointer (some ⟨g4, 0, none⟩)), (2, .slice (some ⟨g17, 0, none⟩) [[(⟨(⟨#[97]⟩ : ByteArray), (⟨#[49]⟩ : ByteArray)⟩ : S53)]].length 1), (3, .bool y25.1), (4, .int .i64 y25.2), (5, .int .i64 y30.1), (27, .pointer (some ⟨g4, 0, none⟩)), (28, .slice (some ⟨g17, 0, none⟩) [[(⟨(⟨#[97]⟩ : ByteArray), (⟨#[49]⟩ : ByteArray)⟩ : S53)]].length 1)]) (by kernel_rfl) ?_
  obtain ⟨y39, hx40, hr⟩ := bind_some hr
  refine gl_call (by kernel_rfl) (nflog_Log_Needs_walk (r := y39) (g0 := g4) (T0 := 46) (A0_0 := A35) (c0_0 := c36) (C0_0 := C37) (a0 := y30.2) (hG.mono (Imm.trans (Imm.trans (Imm.trans (Imm.trans hI3 hJ14) hJ22) hI29) hI34)) hO38 (hf24.mono (Imm.trans hI29 hI34)) (RepS.nil _ _) hx40 _) ?_
  rintro v I41 L42 hI43 ⟨rfl, rfl⟩
  refine gl_pure 5 [1, 2, 3, 4, 5, 6, 7] (K' := [(1, .pointer (some ⟨g4, 0, none⟩)), (2, .slice (some ⟨g17, 0, none⟩) [[(⟨(⟨#[97]⟩ : ByteArray), (⟨#[49]⟩ : ByteArray)⟩ : S53)]].length 1), (3, .bool y25.1), (4, .int .i64 y25.2), (5, .int .i64 y30.1), (6, .bool y39.1), (7, .int .i64 y39.2)]) (by kernel_rfl) ?_
  refine gl_atE (by kernel_rfl) ?_
  refine ge_seq ?_
  refine gk_seq (by kernel_rfl) ?_
  refine gk_region (by kernel_rfl) ?_
  refine gl_pure 2 [3, 4, 5, 6, 7, 33, 34] (K' := [(3, .bool y25.1), (4, .int .i64 y25.2), (5, .int .i64 y30.1), (6, .bool y39.1), (7, .int .i64 y39.2), (33, .pointer (some ⟨g4, 0, none⟩)), (34, .slice (some ⟨g17, 0, none⟩) [[(⟨(⟨#[97]⟩ : ByteArray), (⟨#[49]⟩ : ByteArray)⟩ : S53)]].length 1)]) (by kernel_rfl) ?_
  obtain ⟨y44, hx45, hr⟩ := bind_some hr
  refine gl_call (by kernel_rfl) (nflog_Log_Needs_walk (r := y44) (g0 := g4) (T0 := 46) (A0_0 := A35) (c0_0 := c36) (C0_0 := C37) (a0 := y30.2) (hG.mono (Imm.trans (Imm.trans (Imm.trans (Imm.trans (Imm.trans hI3 hJ14) hJ22) hI29) hI34) hI43)) (hO38.mono hI43) (hf24.mono (Imm.trans (Imm.trans hI29 hI34) hI43)) (RepS.nil _ _) hx45 _) ?_
  rintro v I46 L47 hI48 ⟨rfl, rfl⟩
  refine gl_pure 5 [3, 4, 5, 6, 7, 8, 9] (K' := [(3, .bool y25.1), (4, .int .i64 y25.2), (5, .int .i64 y30.1), (6, .bool y39.1), (7, .int .i64 y39.2), (8, .bool y44.1), (9, .int .i64 y44.2)]) (by kernel_rfl) ?_
  refine gl_atE (by kernel_rfl) ?_
  refine ge_seq ?_
  refine gk_seq (by kernel_rfl) ?_
  obtain ⟨b51, hb52⟩ : ∃ z, z = ((((((y25.1 && (y25.2 == 0)) && (y30.1 == 0)) && (!y39.1)) && (y39.2 == 0)) && y44.1) && (y44.2 == 0)) := ⟨_, rfl⟩
  refine gk_join (fun t I' L' => I46 ≤ I' ∧ (g4, .cells #[.slice A35 y30.2.f0.f0.length c36] 46) :: (C37 ++ L) = L' ∧ Knows 62 [(0, .bool b51)] t) ?_ ?_
  · refine gk_region (by kernel_rfl) ?_
    refine gl_pure 2 [4, 5, 6, 7, 8, 9, 39] (K' := [(4, .int .i64 y25.2), (5, .int .i64 y30.1), (6, .bool y39.1), (7, .int .i64 y39.2), (8, .bool y44.1), (9, .int .i64 y44.2), (39, .bool y25.1)]) (by kernel_rfl) ?_
    refine gl_case 39 (b := y25.1) (by kernel_rfl) (fun hc54 => ?_) (fun hc54 => ?_)
    · refine gl_pure 4 [5, 6, 7, 8, 9, 43] (K' := [(5, .int .i64 y30.1), (6, .bool y39.1), (7, .int .i64 y39.2), (8, .bool y44.1), (9, .int .i64 y44.2), (43, .bool (y25.2 == 0))]) (by kernel_rfl) ?_
      refine gl_case 43 (b := (y25.2 == 0)) (by kernel_rfl) (fun hc55 => ?_) (fun hc55 => ?_)
      · refine gl_pure 4 [6, 7, 8, 9, 47] (K' := [(6, .bool y39.1), (7, .int .i64 y39.2), (8, .bool y44.1), (9, .int .i64 y44.2), (47, .bool (y30.1 == 0))]) (by kernel_rfl) ?_
        refine gl_case 47 (b := (y30.1 == 0)) (by kernel_rfl) (fun hc56 => ?_) (fun hc56 => ?_)
        · refine gl_pure 4 [7, 8, 9, 51] (K' := [(7, .int .i64 y39.2), (8, .bool y44.1), (9, .int .i64 y44.2), (51, .bool (!y39.1))]) (by kernel_rfl) ?_
          refine gl_case 51 (b := (!y39.1)) (by kernel_rfl) (fun hc57 => ?_) (fun hc57 => ?_)
          · refine gl_pure 4 [8, 9, 55] (K' := [(8, .bool y44.1), (9, .int .i64 y44.2), (55, .bool (y39.2 == 0))]) (by kernel_rfl) ?_
            refine gl_case 55 (b := (y39.2 == 0)) (by kernel_rfl) (fun hc58 => ?_) (fun hc58 => ?_)
            · refine gl_pure 3 [9, 58] (K' := [(9, .int .i64 y44.2), (58, .bool y44.1)]) (by kernel_rfl) ?_
              refine gl_case 58 (b := y44.1) (by kernel_rfl) (fun hc59 => ?_) (fun hc59 => ?_)
              · refine gl_pure 4 [0] (K' := [(0, .bool (y44.2 == 0))]) (by kernel_rfl) ?_
                refine gl_atE (by kernel_rfl) ?_
                exact ge_mid fun t ht => ⟨(Imm.refl _), rfl, by rw [(show b51 = (y44.2 == 0) from hb52.trans (by first | (rw [hc54, hc55, hc56, hc57, hc58, hc59]; done) | (rw [hc54, hc55, hc56, hc57, hc58, hc59]; rfl) | (simp [hc54, hc55, hc56, hc57, hc58, hc59]; done) | (simp only [hc54, hc55, hc56, hc57, hc58, hc59]; rfl) | (simp at *; omega)))]; exact ht.pick (l := [0]) (by kernel_rfl)⟩
              · refine gl_pure 4 [0] (K' := [(0, .bool false)]) (by kernel_rfl) ?_
                refine gl_atE (by kernel_rfl) ?_
                exact ge_mid fun t ht => ⟨(Imm.refl _), rfl, by rw [(show b51 = false from hb52.trans (by first | (rw [hc54, hc55, hc56, hc57, hc58, hc59]; done) | (rw [hc54, hc55, hc56, hc57, hc58, hc59]; rfl) | (simp [hc54, hc55, hc56, hc57, hc58, hc59]; done) | (simp only [hc54, hc55, hc56, hc57, hc58, hc59]; rfl) | (simp at *; omega)))]; exact ht.pick (l := [0]) (by kernel_rfl)⟩
            · refine gl_pure 7 [0] (K' := [(0, .bool false)]) (by kernel_rfl) ?_
              refine gl_atE (by kernel_rfl) ?_
              exact ge_mid fun t ht => ⟨(Imm.refl _), rfl, by rw [(show b51 = false from hb52.trans (by first | (rw [hc54, hc55, hc56, hc57, hc58]; done) | (rw [hc54, hc55, hc56, hc57, hc58]; rfl) | (simp [hc54, hc55, hc56, hc57, hc58]; done) | (simp only [hc54, hc55, hc56, hc57, hc58]; rfl) | (simp at *; omega)))]; exact ht.pick (l := [0]) (by kernel_rfl)⟩
          · refine gl_pure 11 [0] (K' := [(0, .bool false)]) (by kernel_rfl) ?_
            refine gl_atE (by kernel_rfl) ?_
            exact ge_mid fun t ht => ⟨(Imm.refl _), rfl, by rw [(show b51 = false from hb52.trans (by first | (rw [hc54, hc55, hc56, hc57]; done) | (rw [hc54, hc55, hc56, hc57]; rfl) | (simp [hc54, hc55, hc56, hc57]; done) | (simp only [hc54, hc55, hc56, hc57]; rfl) | (simp at *; omega)))]; exact ht.pick (l := [0]) (by kernel_rfl)⟩
        · refine gl_pure 15 [0] (K' := [(0, .bool false)]) (by kernel_rfl) ?_
          refine gl_atE (by kernel_rfl) ?_
          exact ge_mid fun t ht => ⟨(Imm.refl _), rfl, by rw [(show b51 = false from hb52.trans (by first | (rw [hc54, hc55, hc56]; done) | (rw [hc54, hc55, hc56]; rfl) | (simp [hc54, hc55, hc56]; done) | (simp only [hc54, hc55, hc56]; rfl) | (simp at *; omega)))]; exact ht.pick (l := [0]) (by kernel_rfl)⟩
      · refine gl_pure 19 [0] (K' := [(0, .bool false)]) (by kernel_rfl) ?_
        refine gl_atE (by kernel_rfl) ?_
        exact ge_mid fun t ht => ⟨(Imm.refl _), rfl, by rw [(show b51 = false from hb52.trans (by first | (rw [hc54, hc55]; done) | (rw [hc54, hc55]; rfl) | (simp [hc54, hc55]; done) | (simp only [hc54, hc55]; rfl) | (simp at *; omega)))]; exact ht.pick (l := [0]) (by kernel_rfl)⟩
    · refine gl_pure 23 [0] (K' := [(0, .bool false)]) (by kernel_rfl) ?_
      refine gl_atE (by kernel_rfl) ?_
      exact ge_mid fun t ht => ⟨(Imm.refl _), rfl, by rw [(show b51 = false from hb52.trans (by first | (rw [hc54]; done) | (rw [hc54]; rfl) | (simp [hc54]; done) | (simp only [hc54]; rfl) | (simp at *; omega)))]; exact ht.pick (l := [0]) (by kernel_rfl)⟩
  · rintro t I53 L' ⟨hI49, rfl, hK50⟩
    subst hb52
    refine ge_at hK50 ?_
    refine ge_seq ?_
    refine gk_reord (D := L) (Reord.skip (Reord.skipC (Reord.refl _))) ?_
    refine gk_ret (by kernel_rfl) ?_
    obtain rfl := some_inj hr
    exact ge_result trivial (ResOk.tmp (by kernel_rfl) ResOk.nil) (Imm.trans (Imm.trans (Imm.trans (Imm.trans (Imm.trans (Imm.trans (Imm.trans hI3 hJ14) hJ22) hI29) hI34) hI43) hI48) hI49) ⟨rfl, rfl⟩
/-! 3 tocsinlaw26_NflogFull  -/
noncomputable def tocsinlaw26_NflogFull_l53 (y11 : ByteArray × Int) : ((List S76) × (List S23) × Int) → Option (((List S76) × (List S23) × Int) ⊕ (((List S23) × (List S76)) ⊕ (Bool))) := fun s27 =>
  bif (decide (s27.2.2 < 500)) then
  (Option.bind (sadd y11.1 (⟨#[107]⟩ : ByteArray)) fun (s56 : ByteArray) =>
    Option.bind (sadd s56 (Utf8.encode (IntKind.wrap .i32 (IntKind.wrap .i64 (19968 + s27.2.2))))) fun (s58 : ByteArray) =>
    Option.bind (nflog_Log_Put (⟨(⟨s27.1⟩ : S43)⟩ : S45) (⟨(⟨#[116, 101, 97, 109]⟩ : ByteArray), s58, 5, [], []⟩ : S23)) fun (y61 : Int × S45) =>
    bif (y61.1 != 0) then
    (some (Sum.inr (Sum.inr false)))
    else
    (Option.bind (app s27.2.1 [(⟨(⟨#[116, 101, 97, 109]⟩ : ByteArray), s58, 5, [], []⟩ : S23)]) fun (zs75 : List S23) =>
      some (Sum.inl (y61.2.f0.f0, zs75, (IntKind.wrap .i64 (s27.2.2 + 1))))))
  else
  (some (Sum.inr (Sum.inl (s27.2.1, s27.1))))
noncomputable def tocsinlaw26_NflogFull (a0 : S23) (a1 : List S53) : Option Bool :=
  Option.bind (tocsinref04_Print a1) fun (y11 : ByteArray × Int) =>
  Option.bind (loopO (tocsinlaw26_NflogFull_l53 y11) (nflog_New.f0.f0, [], 0)) fun (r25 : ((List S23) × (List S76)) ⊕ (Bool)) =>
  match r25 with
  | Sum.inl r41 => Option.bind (Option.bind (tocsinlaw26_step (⟨(⟨r41.2⟩ : S43)⟩ : S45) (⟨r41.1⟩ : S30) (⟨0, (⟨a0.f0, a0.f1, a0.f2, a0.f3, a0.f4⟩ : S23), 0, 0⟩ : S37)) fun (y86 : Bool × S45 × S30) =>
      bif y86.1 then
      (Option.bind (sadd y11.1 (⟨#[107, 228, 184, 133]⟩ : ByteArray)) fun (s100 : ByteArray) =>
        Option.bind (tocsinlaw26_step y86.2.1 y86.2.2 (⟨0, (⟨(⟨#[116, 101, 97, 109]⟩ : ByteArray), s100, 6, [], []⟩ : S23), 0, 0⟩ : S37)) fun (y102 : Bool × S45 × S30) =>
        bif y102.1 then
        (bif ((nflog_Log_Len y102.2.1) == (y102.2.2.f0.length : Int)) then
          (Option.bind tocsinlaw26_awake fun (y120 : Bool) =>
            some y120)
          else
          (some false))
        else
        (some false))
      else
      (some false)) fun (j81 : Bool) =>
    some j81
  | Sum.inr v122 => some v122
theorem tocsinlaw26_NflogFull_walk {a0 : S23} {A0_3 : Option Addr} {n0_3 : Nat} {A0_4 : Option Addr} {n0_4 : Nat} {a1 : List S53} {A1_0 : Option Addr} {n1_0 : Nat} {I : Imm} {r : Bool} (hG : Gl I)  (hf0_3 : RepS (Kd.sl kS53) I A0_3 n0_3 a0.f3) (hf0_4 : RepS (Kd.sl kS53) I A0_4 n0_4 a0.f4)  (hf1_0 : RepS kS53 I A1_0 n1_0 a1) (hr : tocsinlaw26_NflogFull a0 a1 = some r) (L : Own) :
    CallsTo Tryd.prog 3 #[.agg #[.string a0.f0, .string a0.f1, .int .i64 a0.f2, .slice A0_3 a0.f3.length n0_3, .slice A0_4 a0.f4.length n0_4], .slice A1_0 a1.length n1_0] I L (fun v I' L' => v = .bool r ∧ L = L') := by
  unfold tocsinlaw26_NflogFull at hr
  refine callsTo_body (N := 74) Tryd.func3 (by kernel_rfl) (by kernel_rfl) (by kernel_rfl) ?_
  refine gk_pick [0, 1] (K' := [(0, .agg #[.string a0.f0, .string a0.f1, .int .i64 a0.f2, .slice A0_3 a0.f3.length n0_3, .slice A0_4 a0.f4.length n0_4]), (1, .slice A1_0 a1.length n1_0)]) (by kernel_rfl) ?_
  refine gk_seq (by kernel_rfl) ?_
  refine gk_region (by kernel_rfl) ?_
  refine gl_box (T' := 24) (x := (.tmp 0)) (v := .agg #[.string a0.f0, .string a0.f1, .int .i64 a0.f2, .slice A0_3 a0.f3.length n0_3, .slice A0_4 a0.f4.length n0_4]) (cs := #[.string a0.f0, .string a0.f1, .int .i64 a0.f2, .slice A0_3 a0.f3.length n0_3, .slice A0_4 a0.f4.length n0_4]) (by kernel_rfl) (by kernel_rfl) (by kernel_rfl) (by kernel_rfl) (fun gb1 => ?_)
  refine gl_pure 1 [1, 2] (K' := [(1, .slice A1_0 a1.length n1_0), (2, .pointer (some ⟨gb1, 0, none⟩))]) (by kernel_rfl) ?_
  refine gl_atE (by kernel_rfl) ?_
  refine ge_seq ?_
  refine gk_seq (by kernel_rfl) ?_
  refine gk_region (by kernel_rfl) ?_
  refine gl_call (by kernel_rfl) (nflog_New_walk (r := nflog_New)  rfl _) ?_
  rintro v I2 L3 hI4 ⟨g5, A6, c7, C8, hO9, rfl, rfl⟩
  refine gl_pure 1 [1, 2, 11, 12] (K' := [(1, .slice A1_0 a1.length n1_0), (2, .pointer (some ⟨gb1, 0, none⟩)), (11, .pointer (some ⟨g5, 0, none⟩)), (12, .agg #[.slice none 0 0])]) (by kernel_rfl) ?_
  refine gl_box (T' := 31) (x := (.tmp 12)) (v := .agg #[.slice none 0 0]) (cs := #[.slice none 0 0]) (by kernel_rfl) (by kernel_rfl) (by kernel_rfl) (by kernel_rfl) (fun g10 => ?_)
  refine gl_pure 2 [1, 2, 5, 6] (K' := [(1, .slice A1_0 a1.length n1_0), (2, .pointer (some ⟨gb1, 0, none⟩)), (5, .pointer (some ⟨g5, 0, none⟩)), (6, .pointer (some ⟨g10, 0, none⟩))]) (by kernel_rfl) ?_
  refine gl_atE (by kernel_rfl) ?_
  refine ge_seq ?_
  refine gk_seq (by kernel_rfl) ?_
  refine gk_seq (by kernel_rfl) ?_
  refine gk_region (by kernel_rfl) ?_
  refine gl_pure 2 [1, 2, 5, 6, 15] (K' := [(1, .slice A1_0 a1.length n1_0), (2, .pointer (some ⟨gb1, 0, none⟩)), (5, .pointer (some ⟨g5, 0, none⟩)), (6, .pointer (some ⟨g10, 0, none⟩)), (15, .bool false)]) (by kernel_rfl) ?_
  refine gl_atE (by kernel_rfl) ?_
  refine ge_seq ?_
  refine gk_cond (b := false) (by kernel_rfl) (by kernel_rfl) (fun h => by cases h) (fun _ => ?_)
  refine gk_skip (by kernel_rfl) ?_
  refine ge_seq ?_
  refine gk_seq (by kernel_rfl) ?_
  refine gk_region (by kernel_rfl) ?_
  refine gl_pure 1 [2, 5, 6, 17] (K' := [(2, .pointer (some ⟨gb1, 0, none⟩)), (5, .pointer (some ⟨g5, 0, none⟩)), (6, .pointer (some ⟨g10, 0, none⟩)), (17, .slice A1_0 a1.length n1_0)]) (by kernel_rfl) ?_
  obtain ⟨y11, hx12, hr⟩ := bind_some hr
  refine gl_callQ (by kernel_rfl) (tocsinref04_Print_walk (r := y11) (hf1_0.mono hI4) hx12 _) ?_
  refine gl_pure 5 [2, 5, 6, 7] (K' := [(2, .pointer (some ⟨gb1, 0, none⟩)), (5, .pointer (some ⟨g5, 0, none⟩)), (6, .pointer (some ⟨g10, 0, none⟩)), (7, .string y11.1)]) (by kernel_rfl) ?_
  refine gl_atE (by kernel_rfl) ?_
  refine ge_seq ?_
  refine gk_seq (by kernel_rfl) ?_
  refine gk_seq (by kernel_rfl) ?_
  refine gk_region (by kernel_rfl) ?_
  refine gl_pure 1 [2, 5, 6, 7, 9] (K' := [(2, .pointer (some ⟨gb1, 0, none⟩)), (5, .pointer (some ⟨g5, 0, none⟩)), (6, .pointer (some ⟨g10, 0, none⟩)), (7, .string y11.1), (9, .int .i64 0)]) (by kernel_rfl) ?_
  refine gl_atE (by kernel_rfl) ?_
  refine ge_seq ?_
  obtain ⟨r25, hl26, hr⟩ := bind_some hr
  refine gk_reord (D := C8 ++ ((g10, .cells #[.slice none 0 0] 31) :: ((g5, .cells #[.slice A6 nflog_New.f0.f0.length c7] 46) :: ((gb1, .cells #[.string a0.f0, .string a0.f1, .int .i64 a0.f2, .slice A0_3 a0.f3.length n0_3, .slice A0_4 a0.f4.length n0_4] 24) :: L)))) (Reord.step (Upd.one _ (Upd.one _ (Upd.rmC _ _))) (Reord.step1 (Upd.rm1 _ _) (Reord.step1 (Upd.rm1 _ _) (Reord.step1 (Upd.rm1 _ _) (Reord.refl _))))) ?_
  refine gk_join (fun t I' L' => ∃ r41, r25 = Sum.inl r41 ∧ ∃ A43 n44 C45 A47 n48 C49, OwnS kS23 24 I' A43 n44 r41.1 C45 ∧ OwnS kS76 77 I' A47 n48 r41.2 C49 ∧ I2 ≤ I' ∧ C45 ++ (C49 ++ ((g10, .cells #[.slice A43 r41.1.length n44] 31) :: ((g5, .cells #[.slice A47 r41.2.length n48] 46) :: ((gb1, .cells #[.string a0.f0, .string a0.f1, .int .i64 a0.f2, .slice A0_3 a0.f3.length n0_3, .slice A0_4 a0.f4.length n0_4] 24) :: L)))) = L' ∧ Knows 74 [(2, .pointer (some ⟨gb1, 0, none⟩)), (5, .pointer (some ⟨g5, 0, none⟩)), (6, .pointer (some ⟨g10, 0, none⟩)), (7, .string y11.1)] t) ?_ ?_
  · refine gk_block (by kernel_rfl) ?_
    refine gk_pick [2, 5, 6, 7, 9] (K' := [(2, .pointer (some ⟨gb1, 0, none⟩)), (5, .pointer (some ⟨g5, 0, none⟩)), (6, .pointer (some ⟨g10, 0, none⟩)), (7, .string y11.1), (9, .int .i64 0)]) (by kernel_rfl) ?_
    intro t hK
    refine gc_loop (tocsinlaw26_NflogFull_l53 y11) (fun s27 t I' L' => ∃ A31 n32 C33 A35 n36 C37, OwnS kS76 77 I' A31 n32 s27.1 C33 ∧ OwnS kS23 24 I' A35 n36 s27.2.1 C37 ∧ I2 ≤ I' ∧ C33 ++ (C37 ++ ((g10, .cells #[.slice A35 s27.2.1.length n36] 31) :: ((g5, .cells #[.slice A31 s27.1.length n32] 46) :: ((gb1, .cells #[.string a0.f0, .string a0.f1, .int .i64 a0.f2, .slice A0_3 a0.f3.length n0_3, .slice A0_4 a0.f4.length n0_4] 24) :: L)))) = L' ∧ Knows 74 [(2, .pointer (some ⟨gb1, 0, none⟩)), (5, .pointer (some ⟨g5, 0, none⟩)), (6, .pointer (some ⟨g10, 0, none⟩)), (7, .string y11.1), (9, .int .i64 s27.2.2)] t) (by kernel_rfl) ?_ hl26 ⟨A6, c7, C8, none, 0, [], hO9, OwnS.nil _ _ _ _, (Imm.refl _), rfl, hK⟩
    rintro s27 o28 t I40 L' hb29 ⟨A31, n32, C33, A35, n36, C37, hO34, hO38, hI30, rfl, hK39⟩
    unfold tocsinlaw26_NflogFull_l53 at hb29
    refine gk_at hK39 ?_
    refine gk_seq (by kernel_rfl) ?_
    refine gk_seq (by kernel_rfl) ?_
    refine gk_region (by kernel_rfl) ?_
    refine gl_pure 2 [2, 5, 6, 7, 9, 22] (K' := [(2, .pointer (some ⟨gb1, 0, none⟩)), (5, .pointer (some ⟨g5, 0, none⟩)), (6, .pointer (some ⟨g10, 0, none⟩)), (7, .string y11.1), (9, .int .i64 s27.2.2), (22, .bool (decide (s27.2.2 < 500)))]) (by kernel_rfl) ?_
    refine gl_atE (by kernel_rfl) ?_
    refine ge_seq ?_
    refine gk_cond (b := (decide (s27.2.2 < 500))) (by kernel_rfl) (by kernel_rfl) (fun hc55 => ?_) (fun hc55 => ?_)
    · have hb29 := cond_t hc55 hb29
      refine gk_skip (by kernel_rfl) ?_
      refine ge_seq ?_
      refine gk_seq (by kernel_rfl) ?_
      refine gk_block (by kernel_rfl) ?_
      refine gk_seq (by kernel_rfl) ?_
      refine gk_region (by kernel_rfl) ?_
      refine gl_pure 1 [2, 5, 6, 7, 9, 25] (K' := [(2, .pointer (some ⟨gb1, 0, none⟩)), (5, .pointer (some ⟨g5, 0, none⟩)), (6, .pointer (some ⟨g10, 0, none⟩)), (7, .string y11.1), (9, .int .i64 s27.2.2), (25, .string y11.1)]) (by kernel_rfl) ?_
      obtain ⟨s56, hx57, hb29⟩ := bind_some hb29
      refine gl_sadd (t := 9) (t' := 9) (x := (.tmp 25)) (y := (.const (.string (⟨#[107]⟩ : ByteArray)))) hx57 (by kernel_rfl) (by kernel_rfl) (by kernel_rfl) (by kernel_rfl) ?_
      refine gl_pure 3 [2, 5, 6, 7, 9, 26, 29] (K' := [(2, .pointer (some ⟨gb1, 0, none⟩)), (5, .pointer (some ⟨g5, 0, none⟩)), (6, .pointer (some ⟨g10, 0, none⟩)), (7, .string y11.1), (9, .int .i64 s27.2.2), (26, .string s56), (29, .int .i32 (IntKind.wrap .i32 (IntKind.wrap .i64 (19968 + s27.2.2))))]) (by kernel_rfl) ?_
      refine gl_runeStr (src := 21) (dst := 9) (x := (.tmp 29)) (kd := .i32) (n := (IntKind.wrap .i32 (IntKind.wrap .i64 (19968 + s27.2.2)))) (by kernel_rfl) (by kernel_rfl) (by kernel_rfl) (by kernel_rfl) (by kernel_rfl) ?_
      obtain ⟨s58, hx59, hb29⟩ := bind_some hb29
      refine gl_sadd (t := 9) (t' := 9) (x := (.tmp 26)) (y := (.tmp 30)) hx59 (by kernel_rfl) (by kernel_rfl) (by kernel_rfl) (by kernel_rfl) ?_
      refine gl_pure 1 [2, 5, 6, 7, 9, 32] (K' := [(2, .pointer (some ⟨gb1, 0, none⟩)), (5, .pointer (some ⟨g5, 0, none⟩)), (6, .pointer (some ⟨g10, 0, none⟩)), (7, .string y11.1), (9, .int .i64 s27.2.2), (32, .agg #[.string (⟨#[116, 101, 97, 109]⟩ : ByteArray), .string s58, .int .i64 5, .slice none 0 0, .slice none 0 0])]) (by kernel_rfl) ?_
      refine gl_alloc (T' := 24) (cs := #[.string (⟨#[]⟩ : ByteArray), .string (⟨#[]⟩ : ByteArray), .int .i64 0, .slice none 0 0, .slice none 0 0]) (by kernel_rfl) (by kernel_rfl) (by kernel_rfl) (fun g60 => ?_)
      refine gl_storeB (T' := 24) (xp := (.tmp 10)) (xv := (.tmp 32)) (v := .agg #[.string (⟨#[116, 101, 97, 109]⟩ : ByteArray), .string s58, .int .i64 5, .slice none 0 0, .slice none 0 0]) (g := g60) (off := 0) (cs := #[.string (⟨#[]⟩ : ByteArray), .string (⟨#[]⟩ : ByteArray), .int .i64 0, .slice none 0 0, .slice none 0 0]) (cs' := #[.string (⟨#[116, 101, 97, 109]⟩ : ByteArray), .string s58, .int .i64 5, .slice none 0 0, .slice none 0 0]) (by kernel_rfl) (by kernel_rfl) (by kernel_rfl) (by kernel_rfl) (by kernel_rfl) (Upd.set _ _ _ _) ?_ (by kernel_rfl)
      refine gl_atE (by kernel_rfl) ?_
      refine ge_seq ?_
      refine gk_seq (by kernel_rfl) ?_
      refine gk_seq (by kernel_rfl) ?_
      refine gk_region (by kernel_rfl) ?_
      refine gl_pure 1 [2, 5, 6, 7, 9, 10, 33] (K' := [(2, .pointer (some ⟨gb1, 0, none⟩)), (5, .pointer (some ⟨g5, 0, none⟩)), (6, .pointer (some ⟨g10, 0, none⟩)), (7, .string y11.1), (9, .int .i64 s27.2.2), (10, .pointer (some ⟨g60, 0, none⟩)), (33, .pointer (some ⟨g5, 0, none⟩))]) (by kernel_rfl) ?_
      refine gl_loadB (T' := 24) (xp := (.tmp 10)) (v := .agg #[.string (⟨#[116, 101, 97, 109]⟩ : ByteArray), .string s58, .int .i64 5, .slice none 0 0, .slice none 0 0]) (g := g60) (off := 0) (cs := #[.string (⟨#[116, 101, 97, 109]⟩ : ByteArray), .string s58, .int .i64 5, .slice none 0 0, .slice none 0 0]) (e := 24) (fz := (0, 0)) (by kernel_rfl) (by kernel_rfl) (by kernel_rfl) List.mem_cons_self (by kernel_rfl) ?_
      obtain ⟨y61, hx62, hb29⟩ := bind_some hb29
      refine gl_reord (D := (g5, .cells #[.slice A31 s27.1.length n32] 46) :: (C33 ++ ((g60, .cells #[.string (⟨#[116, 101, 97, 109]⟩ : ByteArray), .string s58, .int .i64 5, .slice none 0 0, .slice none 0 0] 24) :: (C37 ++ ((g10, .cells #[.slice A35 s27.2.1.length n36] 31) :: ((gb1, .cells #[.string a0.f0, .string a0.f1, .int .i64 a0.f2, .slice A0_3 a0.f3.length n0_3, .slice A0_4 a0.f4.length n0_4] 24) :: L)))))) (Reord.step1 (Upd.one _ (Upd.app _ (Upd.app _ (Upd.one _ (Upd.rm1 _ _))))) (Reord.step (Upd.one _ (Upd.rmC _ _)) (Reord.step1 (Upd.rm1 _ _) (Reord.step (Upd.rmC _ _) (Reord.step1 (Upd.rm1 _ _) (Reord.step1 (Upd.rm1 _ _) (Reord.refl _))))))) ?_
      refine gl_call (by kernel_rfl) (nflog_Log_Put_walk (r := y61) (g0 := g5) (T0 := 46) (A0_0 := A31) (c0_0 := n32) (C0_0 := C33) (a0 := (⟨(⟨s27.1⟩ : S43)⟩ : S45)) (hG.mono (Imm.trans hI4 hI30)) hO34 (RepS.nil _ _) (RepS.nil _ _) hx62 _) ?_
      rintro v I63 L64 hI65 ⟨A66, c67, C68, hO69, rfl, rfl⟩
      refine gl_pure 1 [2, 5, 6, 7, 9, 10, 36] (K' := [(2, .pointer (some ⟨gb1, 0, none⟩)), (5, .pointer (some ⟨g5, 0, none⟩)), (6, .pointer (some ⟨g10, 0, none⟩)), (7, .string y11.1), (9, .int .i64 s27.2.2), (10, .pointer (some ⟨g60, 0, none⟩)), (36, .bool (y61.1 != 0))]) (by kernel_rfl) ?_
      refine gl_atE (by kernel_rfl) ?_
      refine ge_seq ?_
      refine gk_cond (b := (y61.1 != 0)) (by kernel_rfl) (by kernel_rfl) (fun hc70 => ?_) (fun hc70 => ?_)
      · have hb29 := cond_t hc70 hb29
        refine gk_seq (by kernel_rfl) ?_
        refine gk_region (by kernel_rfl) ?_
        refine gl_pure 1 [4] (K' := [(4, .bool false)]) (by kernel_rfl) ?_
        refine gl_atE (by kernel_rfl) ?_
        refine ge_seq ?_
        refine gk_reord (D := L) (Reord.skip (Reord.skipC (Reord.skip (Reord.skipC (Reord.skip (Reord.skip (Reord.refl _))))))) ?_
        refine gk_ret (by kernel_rfl) ?_
        refine ge_seq_ret ?_
        refine ge_block_ret ?_
        refine ge_seq_ret ?_
        obtain rfl := some_inj hb29
        refine ge_round_out (fun hrr => ?_) (by intro h; cases h)
        obtain rfl := hrr
        refine ge_block_ret ?_
        refine ge_seq_ret ?_
        refine ge_seq_ret ?_
        obtain rfl := some_inj hr
        exact ge_result trivial (ResOk.tmp (by kernel_rfl) ResOk.nil) (Imm.trans (Imm.trans hI4 hI30) hI65) ⟨rfl, rfl⟩
      · have hb29 := cond_f hc70 hb29
        refine gk_skip (by kernel_rfl) ?_
        refine ge_seq ?_
        refine gk_draw 10 [(0, true), (1, true), (2, true), (3, true), (4, true), (5, true), (6, false), (7, false), (8, true), (9, true)] [(g5, .cells #[.slice A66 y61.2.f0.f0.length c67] 46), (g60, .cells #[.string (⟨#[116, 101, 97, 109]⟩ : ByteArray), .string s58, .int .i64 5, .slice none 0 0, .slice none 0 0] 24), (g10, .cells #[.slice A35 s27.2.1.length n36] 31), (gb1, .cells #[.string a0.f0, .string a0.f1, .int .i64 a0.f2, .slice A0_3 a0.f3.length n0_3, .slice A0_4 a0.f4.length n0_4] 24)] (List.forall_mem_cons.2 ⟨List.mem_cons_self, (List.forall_mem_cons.2 ⟨(List.mem_cons_of_mem _ (List.mem_append_right _ List.mem_cons_self)), (List.forall_mem_cons.2 ⟨(List.mem_cons_of_mem _ (List.mem_append_right _ (List.mem_cons_of_mem _ (List.mem_append_right _ List.mem_cons_self)))), (List.forall_mem_cons.2 ⟨(List.mem_cons_of_mem _ (List.mem_append_right _ (List.mem_cons_of_mem _ (List.mem_append_right _ (List.mem_cons_of_mem _ List.mem_cons_self))))), (fun p hp => by cases hp)⟩)⟩)⟩)⟩) (by kernel_rfl) (by kernel_rfl) (by kernel_rfl) ?_ (by kernel_rfl)
        refine gd_pure 4 [2, 5, 6, 7, 9, 10, 37, 40] (K' := [(2, .pointer (some ⟨gb1, 0, none⟩)), (5, .pointer (some ⟨g5, 0, none⟩)), (6, .pointer (some ⟨g10, 0, none⟩)), (7, .string y11.1), (9, .int .i64 s27.2.2), (10, .pointer (some ⟨g60, 0, none⟩)), (37, .pointer (some ⟨g10, 0, none⟩)), (40, .pointer (some ⟨g10, 0, none⟩))]) (s' := [(4, true), (5, true), (6, false), (7, false), (8, true), (9, true)]) (CC.refl (List.forall_mem_cons.2 ⟨List.mem_cons_self, (List.forall_mem_cons.2 ⟨(List.mem_cons_of_mem _ (List.mem_append_right _ List.mem_cons_self)), (List.forall_mem_cons.2 ⟨(List.mem_cons_of_mem _ (List.mem_append_right _ (List.mem_cons_of_mem _ (List.mem_append_right _ List.mem_cons_self)))), (List.forall_mem_cons.2 ⟨(List.mem_cons_of_mem _ (List.mem_append_right _ (List.mem_cons_of_mem _ (List.mem_append_right _ (List.mem_cons_of_mem _ List.mem_cons_self))))), (fun p hp => by cases hp)⟩)⟩)⟩)⟩)) (by kernel_rfl) ?_
        refine gd_q (v := .slice A35 s27.2.1.length n36) (by kernel_rfl) (by kernel_rfl) (CC.refl (List.forall_mem_cons.2 ⟨List.mem_cons_self, (List.forall_mem_cons.2 ⟨(List.mem_cons_of_mem _ (List.mem_append_right _ List.mem_cons_self)), (List.forall_mem_cons.2 ⟨(List.mem_cons_of_mem _ (List.mem_append_right _ (List.mem_cons_of_mem _ (List.mem_append_right _ List.mem_cons_self)))), (List.forall_mem_cons.2 ⟨(List.mem_cons_of_mem _ (List.mem_append_right _ (List.mem_cons_of_mem _ (List.mem_append_right _ (List.mem_cons_of_mem _ List.mem_cons_self))))), (fun p hp => by cases hp)⟩)⟩)⟩)⟩)) (fun I' L' T hC kk => gl_loadB (T' := 29) (xp := (.tmp 40)) (v := .slice A35 s27.2.1.length n36) (g := g10) (off := 0) (cs := #[.slice A35 s27.2.1.length n36]) (e := 31) (fz := (0, 0)) (by kernel_rfl) (by kernel_rfl) (by kernel_rfl) (hC.sub _ (List.mem_cons_of_mem _ (List.mem_cons_of_mem _ List.mem_cons_self))) (by kernel_rfl) kk) ?_
        refine gd_q (v := .agg #[.string (⟨#[116, 101, 97, 109]⟩ : ByteArray), .string s58, .int .i64 5, .slice none 0 0, .slice none 0 0]) (by kernel_rfl) (by kernel_rfl) (CC.refl (List.forall_mem_cons.2 ⟨List.mem_cons_self, (List.forall_mem_cons.2 ⟨(List.mem_cons_of_mem _ (List.mem_append_right _ List.mem_cons_self)), (List.forall_mem_cons.2 ⟨(List.mem_cons_of_mem _ (List.mem_append_right _ (List.mem_cons_of_mem _ (List.mem_append_right _ List.mem_cons_self)))), (List.forall_mem_cons.2 ⟨(List.mem_cons_of_mem _ (List.mem_append_right _ (List.mem_cons_of_mem _ (List.mem_append_right _ (List.mem_cons_of_mem _ List.mem_cons_self))))), (fun p hp => by cases hp)⟩)⟩)⟩)⟩)) (fun I' L' T hC kk => gl_loadB (T' := 24) (xp := (.tmp 10)) (v := .agg #[.string (⟨#[116, 101, 97, 109]⟩ : ByteArray), .string s58, .int .i64 5, .slice none 0 0, .slice none 0 0]) (g := g60) (off := 0) (cs := #[.string (⟨#[116, 101, 97, 109]⟩ : ByteArray), .string s58, .int .i64 5, .slice none 0 0, .slice none 0 0]) (e := 24) (fz := (0, 0)) (by kernel_rfl) (by kernel_rfl) (by kernel_rfl) (hC.sub _ (List.mem_cons_of_mem _ List.mem_cons_self)) (by kernel_rfl) kk) ?_
        refine gd_one (by kernel_rfl) ?_
        refine gl_buildSlice (T' := 29) (e := 24) (n := 5) (len := 1) (parts := #[(0, (.tmp 42))]) (l := [(0, .agg #[.string (⟨#[116, 101, 97, 109]⟩ : ByteArray), .string s58, .int .i64 5, .slice none 0 0, .slice none 0 0])]) (cs := #[.string (⟨#[116, 101, 97, 109]⟩ : ByteArray), .string s58, .int .i64 5, .slice none 0 0, .slice none 0 0]) (by kernel_rfl) (by kernel_rfl) (by kernel_rfl) (by kernel_rfl) (by kernel_rfl) (fun g71 => ?_)
        have hO72 : OwnS kS23 24 I63 (some ⟨g71, 0, none⟩) 1 [(⟨(⟨#[116, 101, 97, 109]⟩ : ByteArray), s58, 5, [], []⟩ : S23)] [(g71, .cells #[.string (⟨#[116, 101, 97, 109]⟩ : ByteArray), .string s58, .int .i64 5, .slice none 0 0, .slice none 0 0] 24)] := OwnS.lit (row_cons (l := [.string (⟨#[116, 101, 97, 109]⟩ : ByteArray), .string s58, .int .i64 5, .slice none 0 0, .slice none 0 0]) (kS23_mk (x := (⟨(⟨#[116, 101, 97, 109]⟩ : ByteArray), s58, 5, [], []⟩ : S23)) (RepS.nil _ _) (RepS.nil _ _)) (row_nil _ _)) rfl rfl rfl
        refine gl_reord (D := [(g71, .cells #[.string (⟨#[116, 101, 97, 109]⟩ : ByteArray), .string s58, .int .i64 5, .slice none 0 0, .slice none 0 0] 24)] ++ ((g5, .cells #[.slice A66 y61.2.f0.f0.length c67] 46) :: (C68 ++ ((g60, .cells #[.string (⟨#[116, 101, 97, 109]⟩ : ByteArray), .string s58, .int .i64 5, .slice none 0 0, .slice none 0 0] 24) :: (C37 ++ ((g10, .cells #[.slice A35 s27.2.1.length n36] 31) :: ((gb1, .cells #[.string a0.f0, .string a0.f1, .int .i64 a0.f2, .slice A0_3 a0.f3.length n0_3, .slice A0_4 a0.f4.length n0_4] 24) :: L))))))) (Reord.refl _) ?_
        refine gl_toD (by kernel_rfl) ⟨(Imm.refl _), (List.forall_mem_cons.2 ⟨(List.mem_append_right _ List.mem_cons_self), (List.forall_mem_cons.2 ⟨(List.mem_append_right _ (List.mem_cons_of_mem _ (List.mem_append_right _ List.mem_cons_self))), (List.forall_mem_cons.2 ⟨(List.mem_append_right _ (List.mem_cons_of_mem _ (List.mem_append_right _ (List.mem_cons_of_mem _ (List.mem_append_right _ List.mem_cons_self))))), (List.forall_mem_cons.2 ⟨(List.mem_append_right _ (List.mem_cons_of_mem _ (List.mem_append_right _ (List.mem_cons_of_mem _ (List.mem_append_right _ (List.mem_cons_of_mem _ List.mem_cons_self)))))), (fun p hp => by cases hp)⟩)⟩)⟩)⟩)⟩ ?_
        refine gd_one (by kernel_rfl) ?_
        obtain ⟨zs75, hz76, hb29⟩ := bind_some hb29
        refine gl_append (xv := .slice (some ⟨g71, 0, none⟩) [(⟨(⟨#[116, 101, 97, 109]⟩ : ByteArray), s58, 5, [], []⟩ : S23)].length 1) (d := kS23) (t := 29) (tx := 29) (e := 24) (s := (.tmp 41)) (x := (.tmp 43)) (xs := s27.2.1) (fun X => [(g71, .cells #[.string (⟨#[116, 101, 97, 109]⟩ : ByteArray), .string s58, .int .i64 5, .slice none 0 0, .slice none 0 0] 24)] ++ ((g5, .cells #[.slice A66 y61.2.f0.f0.length c67] 46) :: (C68 ++ ((g60, .cells #[.string (⟨#[116, 101, 97, 109]⟩ : ByteArray), .string s58, .int .i64 5, .slice none 0 0, .slice none 0 0] 24) :: (X ++ ((g10, .cells #[.slice A35 s27.2.1.length n36] 31) :: ((gb1, .cells #[.string a0.f0, .string a0.f1, .int .i64 a0.f2, .slice A0_3 a0.f3.length n0_3, .slice A0_4 a0.f4.length n0_4] 24) :: L))))))) hz76 (by kernel_rfl) (by kernel_rfl) (by kernel_rfl) (by kernel_rfl) (by kernel_rfl) (by kernel_rfl) (fun X => (Upd.app _ (Upd.one _ (Upd.app _ (Upd.one _ (Upd.head _ X _)))))) (hO38.mono hI65) (SrcOk.slice (c := 1) (e := 24) (n := 5) (OwnS.rd hO72 (Upd.selfC _ _)) (by kernel_rfl)) (fun A77 n78 C79 hO80 => ?_)
        refine gl_toD (by kernel_rfl) ⟨(Imm.refl _), (List.forall_mem_cons.2 ⟨(List.mem_append_right _ List.mem_cons_self), (List.forall_mem_cons.2 ⟨(List.mem_append_right _ (List.mem_cons_of_mem _ (List.mem_append_right _ List.mem_cons_self))), (List.forall_mem_cons.2 ⟨(List.mem_append_right _ (List.mem_cons_of_mem _ (List.mem_append_right _ (List.mem_cons_of_mem _ (List.mem_append_right _ List.mem_cons_self))))), (List.forall_mem_cons.2 ⟨(List.mem_append_right _ (List.mem_cons_of_mem _ (List.mem_append_right _ (List.mem_cons_of_mem _ (List.mem_append_right _ (List.mem_cons_of_mem _ List.mem_cons_self)))))), (fun p hp => by cases hp)⟩)⟩)⟩)⟩)⟩ ?_
        refine gd_pure 2 [2, 5, 6, 7, 9, 44, 46] (K' := [(2, .pointer (some ⟨gb1, 0, none⟩)), (5, .pointer (some ⟨g5, 0, none⟩)), (6, .pointer (some ⟨g10, 0, none⟩)), (7, .string y11.1), (9, .int .i64 s27.2.2), (44, .slice A77 zs75.length n78), (46, .pointer (some ⟨g10, 0, none⟩))]) (s' := []) (CC.refl (List.forall_mem_cons.2 ⟨(List.mem_append_right _ List.mem_cons_self), (List.forall_mem_cons.2 ⟨(List.mem_append_right _ (List.mem_cons_of_mem _ (List.mem_append_right _ List.mem_cons_self))), (List.forall_mem_cons.2 ⟨(List.mem_append_right _ (List.mem_cons_of_mem _ (List.mem_append_right _ (List.mem_cons_of_mem _ (List.mem_append_right _ List.mem_cons_self))))), (List.forall_mem_cons.2 ⟨(List.mem_append_right _ (List.mem_cons_of_mem _ (List.mem_append_right _ (List.mem_cons_of_mem _ (List.mem_append_right _ (List.mem_cons_of_mem _ List.mem_cons_self)))))), (fun p hp => by cases hp)⟩)⟩)⟩)⟩)) (by kernel_rfl) ?_
        refine gd_done ?_
        refine gl_storeB (T' := 29) (xp := (.tmp 46)) (xv := (.tmp 44)) (v := .slice A77 zs75.length n78) (g := g10) (off := 0) (cs := #[.slice A35 s27.2.1.length n36]) (cs' := #[.slice A77 zs75.length n78]) (by kernel_rfl) (by kernel_rfl) (by kernel_rfl) (by kernel_rfl) (by kernel_rfl) (Upd.app _ (Upd.one _ (Upd.app _ (Upd.one _ (Upd.app _ (Upd.set _ _ _ _)))))) ?_ (by kernel_rfl)
        refine gl_atE (by kernel_rfl) ?_
        refine ge_block_normal ?_
        refine ge_seq ?_
        refine gk_region (by kernel_rfl) ?_
        refine gl_pure 3 [2, 5, 6, 7, 9] (K' := [(2, .pointer (some ⟨gb1, 0, none⟩)), (5, .pointer (some ⟨g5, 0, none⟩)), (6, .pointer (some ⟨g10, 0, none⟩)), (7, .string y11.1), (9, .int .i64 (IntKind.wrap .i64 (s27.2.2 + 1)))]) (by kernel_rfl) ?_
        refine gl_reord (D := C68 ++ (C79 ++ ((g10, .cells #[.slice A77 zs75.length n78] 31) :: ((g5, .cells #[.slice A66 y61.2.f0.f0.length c67] 46) :: ((gb1, .cells #[.string a0.f0, .string a0.f1, .int .i64 a0.f2, .slice A0_3 a0.f3.length n0_3, .slice A0_4 a0.f4.length n0_4] 24) :: L))))) (Reord.step (Upd.app _ (Upd.one _ (Upd.rmC _ _))) (Reord.step (Upd.app _ (Upd.one _ (Upd.one _ (Upd.rmC _ _)))) (Reord.step1 (Upd.app _ (Upd.one _ (Upd.one _ (Upd.rm1 _ _)))) (Reord.step1 (Upd.app _ (Upd.rm1 _ _)) (Reord.step1 (Upd.app _ (Upd.one _ (Upd.rm1 _ _))) (Reord.skipC (Reord.skip (Reord.refl _)))))))) ?_
        refine gl_atE (by kernel_rfl) ?_
        obtain rfl := some_inj hb29
        exact ge_round fun t ht => ⟨A66, c67, C68, A77, n78, C79, hO69, hO80, (Imm.trans hI30 hI65), rfl, ht.pick (l := [2, 5, 6, 7, 9]) (by kernel_rfl)⟩
    · have hb29 := cond_f hc55 hb29
      refine gk_reord (D := C37 ++ (C33 ++ ((g10, .cells #[.slice A35 s27.2.1.length n36] 31) :: ((g5, .cells #[.slice A31 s27.1.length n32] 46) :: ((gb1, .cells #[.string a0.f0, .string a0.f1, .int .i64 a0.f2, .slice A0_3 a0.f3.length n0_3, .slice A0_4 a0.f4.length n0_4] 24) :: L))))) (Reord.step (Upd.app _ (Upd.rmC _ _)) (Reord.step (Upd.rmC _ _) (Reord.step1 (Upd.rm1 _ _) (Reord.step1 (Upd.rm1 _ _) (Reord.step1 (Upd.rm1 _ _) (Reord.refl _)))))) ?_
      refine gk_exit (by kernel_rfl) ?_
      refine ge_seq_exit ?_
      obtain rfl := some_inj hb29
      refine ge_round_out (fun hrr => ?_) (by intro h; cases h)
      obtain rfl := hrr
      refine ge_block_hit (by kernel_rfl) ?_
      exact ge_mid fun t ht => ⟨_, rfl, A35, n36, C37, A31, n32, C33, hO38, hO34, hI30, rfl, ht.pick (l := [2, 5, 6, 7]) (by kernel_rfl)⟩
  · rintro t I52 L' ⟨r41, rfl, A43, n44, C45, A47, n48, C49, hO46, hO50, hI42, rfl, hK51⟩
    refine ge_at hK51 ?_
    refine ge_seq ?_
    refine gk_seq (by kernel_rfl) ?_
    obtain ⟨j81, hj82, hr⟩ := bind_some hr
    refine gk_join (fun t I' L' => I52 ≤ I' ∧ L = L' ∧ Knows 74 [(4, .bool j81)] t) ?_ ?_
    · refine gk_drawS 25 [(0, true), (1, true), (2, true), (3, true), (4, false), (5, true), (6, true), (7, true), (8, true), (9, true), (10, true), (11, true), (12, false), (13, true), (14, true), (15, true), (17, true), (18, true), (19, true), (20, true), (21, true), (16, false), (22, true), (23, true), (24, true)] [20] [(gb1, .cells #[.string a0.f0, .string a0.f1, .int .i64 a0.f2, .slice A0_3 a0.f3.length n0_3, .slice A0_4 a0.f4.length n0_4] 24)] [(gb1, .cells #[.string a0.f0, .string a0.f1, .int .i64 a0.f2, .slice A0_3 a0.f3.length n0_3, .slice A0_4 a0.f4.length n0_4] 24)] (List.forall_mem_cons.2 ⟨(List.mem_append_right _ (List.mem_append_right _ (List.mem_cons_of_mem _ (List.mem_cons_of_mem _ List.mem_cons_self)))), (fun p hp => by cases hp)⟩) (fun p hp => hp) (by kernel_rfl) (by kernel_rfl) (by kernel_rfl) ?_ (by kernel_rfl)
      refine gd_pure 2 [2, 5, 6, 7, 47, 48] (K' := [(2, .pointer (some ⟨gb1, 0, none⟩)), (5, .pointer (some ⟨g5, 0, none⟩)), (6, .pointer (some ⟨g10, 0, none⟩)), (7, .string y11.1), (47, .pointer (some ⟨g5, 0, none⟩)), (48, .pointer (some ⟨g10, 0, none⟩))]) (s' := [(2, true), (3, true), (4, false), (5, true), (6, true), (7, true), (8, true), (9, true), (10, true), (11, true), (12, false), (13, true), (14, true), (15, true), (17, true), (18, true), (19, true), (20, true), (21, true), (16, false), (22, true), (23, true), (24, true)]) (CC.refl (List.forall_mem_cons.2 ⟨(List.mem_append_right _ (List.mem_append_right _ (List.mem_cons_of_mem _ (List.mem_cons_of_mem _ List.mem_cons_self)))), (fun p hp => by cases hp)⟩)) (by kernel_rfl) ?_
      refine gd_q (v := .agg #[.string a0.f0, .string a0.f1, .int .i64 a0.f2, .slice A0_3 a0.f3.length n0_3, .slice A0_4 a0.f4.length n0_4]) (by kernel_rfl) (by kernel_rfl) (CC.refl (List.forall_mem_cons.2 ⟨(List.mem_append_right _ (List.mem_append_right _ (List.mem_cons_of_mem _ (List.mem_cons_of_mem _ List.mem_cons_self)))), (fun p hp => by cases hp)⟩)) (fun I' L' T hC kk => gl_loadB (T' := 24) (xp := (.tmp 2)) (v := .agg #[.string a0.f0, .string a0.f1, .int .i64 a0.f2, .slice A0_3 a0.f3.length n0_3, .slice A0_4 a0.f4.length n0_4]) (g := gb1) (off := 0) (cs := #[.string a0.f0, .string a0.f1, .int .i64 a0.f2, .slice A0_3 a0.f3.length n0_3, .slice A0_4 a0.f4.length n0_4]) (e := 24) (fz := (0, 0)) (by kernel_rfl) (by kernel_rfl) (by kernel_rfl) (hC.sub _ List.mem_cons_self) (by kernel_rfl) kk) ?_
      refine gd_pure 1 [5, 6, 7, 47, 48, 50] (K' := [(5, .pointer (some ⟨g5, 0, none⟩)), (6, .pointer (some ⟨g10, 0, none⟩)), (7, .string y11.1), (47, .pointer (some ⟨g5, 0, none⟩)), (48, .pointer (some ⟨g10, 0, none⟩)), (50, .agg #[.int .i64 0, .string a0.f0, .string a0.f1, .int .i64 a0.f2, .slice A0_3 a0.f3.length n0_3, .slice A0_4 a0.f4.length n0_4, .int .i64 0, .int .i64 0])]) (s' := [(4, false), (5, true), (6, true), (7, true), (8, true), (9, true), (10, true), (11, true), (12, false), (13, true), (14, true), (15, true), (17, true), (18, true), (19, true), (20, true), (21, true), (16, false), (22, true), (23, true), (24, true)]) (CC.refl (List.forall_mem_cons.2 ⟨(List.mem_append_right _ (List.mem_append_right _ (List.mem_cons_of_mem _ (List.mem_cons_of_mem _ List.mem_cons_self)))), (fun p hp => by cases hp)⟩)) (by kernel_rfl) ?_
      refine gd_one (by kernel_rfl) ?_
      obtain ⟨y86, hx87, hj82⟩ := bind_some hj82
      refine gl_reord (D := (g5, .cells #[.slice A47 r41.2.length n48] 46) :: (C49 ++ ((g10, .cells #[.slice A43 r41.1.length n44] 31) :: (C45 ++ ((gb1, .cells #[.string a0.f0, .string a0.f1, .int .i64 a0.f2, .slice A0_3 a0.f3.length n0_3, .slice A0_4 a0.f4.length n0_4] 24) :: L))))) (Reord.step1 (Upd.app _ (Upd.app _ (Upd.one _ (Upd.rm1 _ _)))) (Reord.step (Upd.app _ (Upd.rmC _ _)) (Reord.step1 (Upd.app _ (Upd.rm1 _ _)) (Reord.step (Upd.rmC _ _) (Reord.step1 (Upd.rm1 _ _) (Reord.refl _)))))) ?_
      refine gl_call (by kernel_rfl) (tocsinlaw26_step_walk (r := y86) (g0 := g5) (T0 := 46) (A0_0 := A47) (c0_0 := n48) (C0_0 := C49) (a0 := (⟨(⟨r41.2⟩ : S43)⟩ : S45)) (g1 := g10) (T1 := 31) (A1_0 := A43) (c1_0 := n44) (C1_0 := C45) (a1 := (⟨r41.1⟩ : S30)) (hG.mono (Imm.trans hI4 hI42)) hO50 hO46 (hf0_3.mono (Imm.trans hI4 hI42)) (hf0_4.mono (Imm.trans hI4 hI42)) hx87 _) ?_
      rintro v I88 L89 hI90 ⟨A91, c92, C93, A94, c95, C96, hO97, hO98, rfl, rfl⟩
      refine gl_toD (by kernel_rfl) ⟨hI90, (List.forall_mem_cons.2 ⟨(List.mem_cons_of_mem _ (List.mem_append_right _ (List.mem_cons_of_mem _ (List.mem_append_right _ List.mem_cons_self)))), (fun p hp => by cases hp)⟩)⟩ ?_
      refine gd_pure 1 [5, 6, 7, 52] (K' := [(5, .pointer (some ⟨g5, 0, none⟩)), (6, .pointer (some ⟨g10, 0, none⟩)), (7, .string y11.1), (52, .bool y86.1)]) (s' := [(6, true), (7, true), (8, true), (9, true), (10, true), (11, true), (12, false), (13, true), (14, true), (15, true), (17, true), (18, true), (19, true), (20, true), (21, true), (16, false), (22, true), (23, true), (24, true)]) (CC.refl (List.forall_mem_cons.2 ⟨(List.mem_cons_of_mem _ (List.mem_append_right _ (List.mem_cons_of_mem _ (List.mem_append_right _ List.mem_cons_self)))), (fun p hp => by cases hp)⟩)) (by kernel_rfl) ?_
      refine gd_case 52 (b := y86.1) (by kernel_rfl) (fun hc99 => ?_) (fun hc99 => ?_)
      · have hj82 := cond_t hc99 hj82
        refine gd_pure 3 [5, 6, 52, 53, 54, 55] (K' := [(5, .pointer (some ⟨g5, 0, none⟩)), (6, .pointer (some ⟨g10, 0, none⟩)), (52, .bool true), (53, .pointer (some ⟨g5, 0, none⟩)), (54, .pointer (some ⟨g10, 0, none⟩)), (55, .string y11.1)]) (s' := [(9, true), (10, true), (11, true), (12, false), (13, true), (14, true), (15, true), (17, true), (18, true), (19, true), (20, true), (21, true), (16, false), (22, true), (23, true), (24, true)]) (CC.refl (List.forall_mem_cons.2 ⟨(List.mem_cons_of_mem _ (List.mem_append_right _ (List.mem_cons_of_mem _ (List.mem_append_right _ List.mem_cons_self)))), (fun p hp => by cases hp)⟩)) (by kernel_rfl) ?_
        obtain ⟨s100, hx101, hj82⟩ := bind_some hj82
        refine gd_q (v := .string s100) (by kernel_rfl) (by kernel_rfl) (CC.refl (List.forall_mem_cons.2 ⟨(List.mem_cons_of_mem _ (List.mem_append_right _ (List.mem_cons_of_mem _ (List.mem_append_right _ List.mem_cons_self)))), (fun p hp => by cases hp)⟩)) (fun I' L' T hC kk => gl_sadd (t := 9) (t' := 9) (x := (.tmp 55)) (y := (.const (.string (⟨#[107, 228, 184, 133]⟩ : ByteArray)))) hx101 (by kernel_rfl) (by kernel_rfl) (by kernel_rfl) (by kernel_rfl) kk) ?_
        refine gd_pure 2 [5, 6, 52, 53, 54, 58] (K' := [(5, .pointer (some ⟨g5, 0, none⟩)), (6, .pointer (some ⟨g10, 0, none⟩)), (52, .bool true), (53, .pointer (some ⟨g5, 0, none⟩)), (54, .pointer (some ⟨g10, 0, none⟩)), (58, .agg #[.int .i64 0, .string (⟨#[116, 101, 97, 109]⟩ : ByteArray), .string s100, .int .i64 6, .slice none 0 0, .slice none 0 0, .int .i64 0, .int .i64 0])]) (s' := [(12, false), (13, true), (14, true), (15, true), (17, true), (18, true), (19, true), (20, true), (21, true), (16, false), (22, true), (23, true), (24, true)]) (CC.refl (List.forall_mem_cons.2 ⟨(List.mem_cons_of_mem _ (List.mem_append_right _ (List.mem_cons_of_mem _ (List.mem_append_right _ List.mem_cons_self)))), (fun p hp => by cases hp)⟩)) (by kernel_rfl) ?_
        refine gd_grow (by kernel_rfl) ?_
        obtain ⟨y102, hx103, hj82⟩ := bind_some hj82
        refine gl_call (by kernel_rfl) (tocsinlaw26_step_walk (r := y102) (g0 := g5) (T0 := 46) (A0_0 := A91) (c0_0 := c92) (C0_0 := C93) (a0 := y86.2.1) (g1 := g10) (T1 := 31) (A1_0 := A94) (c1_0 := c95) (C1_0 := C96) (a1 := y86.2.2) (hG.mono (Imm.trans (Imm.trans hI4 hI42) hI90)) hO97 hO98 (RepS.nil _ _) (RepS.nil _ _) hx103 _) ?_
        rintro v I104 L105 hI106 ⟨A107, c108, C109, A110, c111, C112, hO113, hO114, rfl, rfl⟩
        refine gl_toG [(g10, .cells #[.slice A110 y102.2.2.f0.length c111] 31), (gb1, .cells #[.string a0.f0, .string a0.f1, .int .i64 a0.f2, .slice A0_3 a0.f3.length n0_3, .slice A0_4 a0.f4.length n0_4] 24)] (fun p hp => List.mem_cons_of_mem _ (hp)) (by kernel_rfl) ⟨hI106, (List.forall_mem_cons.2 ⟨(List.mem_cons_of_mem _ (List.mem_append_right _ List.mem_cons_self)), (List.forall_mem_cons.2 ⟨(List.mem_cons_of_mem _ (List.mem_append_right _ (List.mem_cons_of_mem _ (List.mem_append_right _ List.mem_cons_self)))), (fun p hp => by cases hp)⟩)⟩)⟩ ?_
        refine gd_pure 2 [5, 6, 61] (K' := [(5, .pointer (some ⟨g5, 0, none⟩)), (6, .pointer (some ⟨g10, 0, none⟩)), (61, .bool y102.1)]) (s' := [(15, true), (17, true), (18, true), (19, true), (20, true), (21, true), (16, false), (22, true), (23, true), (24, true)]) (CC.refl (List.forall_mem_cons.2 ⟨(List.mem_cons_of_mem _ (List.mem_append_right _ List.mem_cons_self)), (List.forall_mem_cons.2 ⟨(List.mem_cons_of_mem _ (List.mem_append_right _ (List.mem_cons_of_mem _ (List.mem_append_right _ List.mem_cons_self)))), (fun p hp => by cases hp)⟩)⟩)) (by kernel_rfl) ?_
        refine gd_case 61 (b := y102.1) (by kernel_rfl) (fun hc115 => ?_) (fun hc115 => ?_)
        · have hj82 := cond_t hc115 hj82
          refine gd_pure 4 [61, 62, 66] (K' := [(61, .bool true), (62, .pointer (some ⟨g5, 0, none⟩)), (66, .pointer (some ⟨g10, 0, none⟩))]) (s' := [(20, true), (21, true), (16, false), (22, true), (23, true), (24, true)]) (CC.refl (List.forall_mem_cons.2 ⟨(List.mem_cons_of_mem _ (List.mem_append_right _ List.mem_cons_self)), (List.forall_mem_cons.2 ⟨(List.mem_cons_of_mem _ (List.mem_append_right _ (List.mem_cons_of_mem _ (List.mem_append_right _ List.mem_cons_self)))), (fun p hp => by cases hp)⟩)⟩)) (by kernel_rfl) ?_
          refine gd_q (v := .slice A110 y102.2.2.f0.length c111) (by kernel_rfl) (by kernel_rfl) (CC.refl (List.forall_mem_cons.2 ⟨(List.mem_cons_of_mem _ (List.mem_append_right _ List.mem_cons_self)), (List.forall_mem_cons.2 ⟨(List.mem_cons_of_mem _ (List.mem_append_right _ (List.mem_cons_of_mem _ (List.mem_append_right _ List.mem_cons_self)))), (fun p hp => by cases hp)⟩)⟩)) (fun I' L' T hC kk => gl_loadB (T' := 29) (xp := (.tmp 66)) (v := .slice A110 y102.2.2.f0.length c111) (g := g10) (off := 0) (cs := #[.slice A110 y102.2.2.f0.length c111]) (e := 31) (fz := (0, 0)) (by kernel_rfl) (by kernel_rfl) (by kernel_rfl) (hC.sub _ List.mem_cons_self) (by kernel_rfl) kk) ?_
          refine gd_pure 1 [61, 62, 68] (K' := [(61, .bool true), (62, .pointer (some ⟨g5, 0, none⟩)), (68, .int .i64 (y102.2.2.f0.length : Int))]) (s' := [(16, false), (22, true), (23, true), (24, true)]) (CC.refl (List.forall_mem_cons.2 ⟨(List.mem_cons_of_mem _ (List.mem_append_right _ List.mem_cons_self)), (List.forall_mem_cons.2 ⟨(List.mem_cons_of_mem _ (List.mem_append_right _ (List.mem_cons_of_mem _ (List.mem_append_right _ List.mem_cons_self)))), (fun p hp => by cases hp)⟩)⟩)) (by kernel_rfl) ?_
          refine gd_one (by kernel_rfl) ?_
          refine gl_call (by kernel_rfl) (nflog_Log_Len_walk (r := (nflog_Log_Len y102.2.1)) (g0 := g5) (T0 := 46) (A0_0 := A107) (c0_0 := c108) (C0_0 := C109) (a0 := y102.2.1) hO113 rfl _) ?_
          rintro v I116 L117 hI118 ⟨rfl, rfl⟩
          refine gl_toD (by kernel_rfl) ⟨hI118, (List.forall_mem_cons.2 ⟨(List.mem_cons_of_mem _ (List.mem_append_right _ List.mem_cons_self)), (List.forall_mem_cons.2 ⟨(List.mem_cons_of_mem _ (List.mem_append_right _ (List.mem_cons_of_mem _ (List.mem_append_right _ List.mem_cons_self)))), (fun p hp => by cases hp)⟩)⟩)⟩ ?_
          refine gd_pure 3 [71] (K' := [(71, .bool ((nflog_Log_Len y102.2.1) == (y102.2.2.f0.length : Int)))]) (s' := []) (CC.refl (List.forall_mem_cons.2 ⟨(List.mem_cons_of_mem _ (List.mem_append_right _ List.mem_cons_self)), (List.forall_mem_cons.2 ⟨(List.mem_cons_of_mem _ (List.mem_append_right _ (List.mem_cons_of_mem _ (List.mem_append_right _ List.mem_cons_self)))), (fun p hp => by cases hp)⟩)⟩)) (by kernel_rfl) ?_
          refine gd_done ?_
          refine gl_case 71 (b := ((nflog_Log_Len y102.2.1) == (y102.2.2.f0.length : Int))) (by kernel_rfl) (fun hc119 => ?_) (fun hc119 => ?_)
          · have hj82 := cond_t hc119 hj82
            obtain ⟨y120, hx121, hj82⟩ := bind_some hj82
            refine gl_callQ (by kernel_rfl) (tocsinlaw26_awake_walk (r := y120) (hG.mono (Imm.trans (Imm.trans (Imm.trans (Imm.trans hI4 hI42) hI90) hI106) hI118)) hx121 _) ?_
            refine gl_pure 2 [4] (K' := [(4, .bool y120)]) (by kernel_rfl) ?_
            refine gl_reord (D := L) (Reord.skip (Reord.skipC (Reord.skip (Reord.skipC (Reord.skip (Reord.refl _)))))) ?_
            refine gl_atE (by kernel_rfl) ?_
            obtain rfl := some_inj hj82
            exact ge_mid fun t ht => ⟨(Imm.trans (Imm.trans hI90 hI106) hI118), rfl, ht.pick (l := [4]) (by kernel_rfl)⟩
          · have hj82 := cond_f hc119 hj82
            refine gl_pure 3 [4] (K' := [(4, .bool false)]) (by kernel_rfl) ?_
            refine gl_reord (D := L) (Reord.skip (Reord.skipC (Reord.skip (Reord.skipC (Reord.skip (Reord.refl _)))))) ?_
            refine gl_atE (by kernel_rfl) ?_
            obtain rfl := some_inj hj82
            exact ge_mid fun t ht => ⟨(Imm.trans (Imm.trans hI90 hI106) hI118), rfl, ht.pick (l := [4]) (by kernel_rfl)⟩
        · have hj82 := cond_f hc115 hj82
          refine gd_pure 6 [61, 62, 68] (K' := [(61, .bool false), (62, undef), (68, undef)]) (s' := [(16, false), (22, true), (23, true), (24, true)]) (CC.refl (List.forall_mem_cons.2 ⟨(List.mem_cons_of_mem _ (List.mem_append_right _ List.mem_cons_self)), (List.forall_mem_cons.2 ⟨(List.mem_cons_of_mem _ (List.mem_append_right _ (List.mem_cons_of_mem _ (List.mem_append_right _ List.mem_cons_self)))), (fun p hp => by cases hp)⟩)⟩)) (by kernel_rfl) ?_
          refine gd_skip1 (by kernel_rfl) (by kernel_rfl) (CC.refl (List.forall_mem_cons.2 ⟨(List.mem_cons_of_mem _ (List.mem_append_right _ List.mem_cons_self)), (List.forall_mem_cons.2 ⟨(List.mem_cons_of_mem _ (List.mem_append_right _ (List.mem_cons_of_mem _ (List.mem_append_right _ List.mem_cons_self)))), (fun p hp => by cases hp)⟩)⟩)) ?_
          refine gd_pure 3 [71] (K' := [(71, .bool false)]) (s' := []) (CC.refl (List.forall_mem_cons.2 ⟨(List.mem_cons_of_mem _ (List.mem_append_right _ List.mem_cons_self)), (List.forall_mem_cons.2 ⟨(List.mem_cons_of_mem _ (List.mem_append_right _ (List.mem_cons_of_mem _ (List.mem_append_right _ List.mem_cons_self)))), (fun p hp => by cases hp)⟩)⟩)) (by kernel_rfl) ?_
          refine gd_done ?_
          refine gl_pure 3 [4] (K' := [(4, .bool false)]) (by kernel_rfl) ?_
          refine gl_reord (D := L) (Reord.skip (Reord.skipC (Reord.skip (Reord.skipC (Reord.skip (Reord.refl _)))))) ?_
          refine gl_atE (by kernel_rfl) ?_
          obtain rfl := some_inj hj82
          exact ge_mid fun t ht => ⟨(Imm.trans hI90 hI106), rfl, ht.pick (l := [4]) (by kernel_rfl)⟩
      · have hj82 := cond_f hc99 hj82
        refine gd_pure 6 [5, 6, 52, 53, 54, 58] (K' := [(5, .pointer (some ⟨g5, 0, none⟩)), (6, .pointer (some ⟨g10, 0, none⟩)), (52, .bool false), (53, undef), (54, undef), (58, undef)]) (s' := [(12, false), (13, true), (14, true), (15, true), (17, true), (18, true), (19, true), (20, true), (21, true), (16, false), (22, true), (23, true), (24, true)]) (CC.refl (List.forall_mem_cons.2 ⟨(List.mem_cons_of_mem _ (List.mem_append_right _ (List.mem_cons_of_mem _ (List.mem_append_right _ List.mem_cons_self)))), (fun p hp => by cases hp)⟩)) (by kernel_rfl) ?_
        refine gd_skip1 (by kernel_rfl) (by kernel_rfl) (CC.refl (List.forall_mem_cons.2 ⟨(List.mem_cons_of_mem _ (List.mem_append_right _ (List.mem_cons_of_mem _ (List.mem_append_right _ List.mem_cons_self)))), (fun p hp => by cases hp)⟩)) ?_
        refine gd_pure 8 [61, 62, 68] (K' := [(61, .bool false), (62, undef), (68, undef)]) (s' := [(16, false), (22, true), (23, true), (24, true)]) (CC.refl (List.forall_mem_cons.2 ⟨(List.mem_cons_of_mem _ (List.mem_append_right _ (List.mem_cons_of_mem _ (List.mem_append_right _ List.mem_cons_self)))), (fun p hp => by cases hp)⟩)) (by kernel_rfl) ?_
        refine gd_skip1 (by kernel_rfl) (by kernel_rfl) (CC.refl (List.forall_mem_cons.2 ⟨(List.mem_cons_of_mem _ (List.mem_append_right _ (List.mem_cons_of_mem _ (List.mem_append_right _ List.mem_cons_self)))), (fun p hp => by cases hp)⟩)) ?_
        refine gd_pure 3 [71] (K' := [(71, .bool false)]) (s' := []) (CC.refl (List.forall_mem_cons.2 ⟨(List.mem_cons_of_mem _ (List.mem_append_right _ (List.mem_cons_of_mem _ (List.mem_append_right _ List.mem_cons_self)))), (fun p hp => by cases hp)⟩)) (by kernel_rfl) ?_
        refine gd_done ?_
        refine gl_pure 3 [4] (K' := [(4, .bool false)]) (by kernel_rfl) ?_
        refine gl_reord (D := L) (Reord.skip (Reord.skipC (Reord.skip (Reord.skipC (Reord.skip (Reord.refl _)))))) ?_
        refine gl_atE (by kernel_rfl) ?_
        obtain rfl := some_inj hj82
        exact ge_mid fun t ht => ⟨hI90, rfl, ht.pick (l := [4]) (by kernel_rfl)⟩
    · rintro t I85 L' ⟨hI83, rfl, hK84⟩
      refine ge_at hK84 ?_
      refine ge_seq ?_
      refine gk_ret (by kernel_rfl) ?_
      obtain rfl := some_inj hr
      exact ge_result trivial (ResOk.tmp (by kernel_rfl) ResOk.nil) (Imm.trans (Imm.trans hI4 hI42) hI83) ⟨rfl, rfl⟩
end Go.Proofs.YtjkkmbjkndageaaDoor
