/- Parts: Q1b. -/
import Derived.Test.YtnlkfajnaelnnaaGreatDoorQ1az
set_option linter.unusedVariables false
set_option linter.unusedSimpArgs false
set_option maxRecDepth 100000
namespace Go.Proofs.YtnlkfajnaelnnaaGreatDoor
open Go.GB
/-! 65 tocsinref04_Pick  -/
/-! 66 tocsinref04_Quoted  -/
/-! 24 tocsinref04_Print  -/
/-! 27 tocsinlaw04_same  -/
noncomputable def tocsinlaw04_same_l18 (a0 : List S49) (a1 : List S49) : Int → Option ((Int) ⊕ ((Unit) ⊕ (Bool))) := fun s8 =>
  bif (decide (s8 < (a0.length : Int))) then
  (Option.bind (ix a0 s8) fun (x21 : S49) =>
    Option.bind (ix a1 s8) fun (x29 : S49) =>
    bif (!((x21.f0.toList == x29.f0.toList) && (x21.f1.toList == x29.f1.toList))) then
    (some (Sum.inr (Sum.inr false)))
    else
    (some (Sum.inl (IntKind.wrap .i64 (s8 + 1)))))
  else
  (some (Sum.inr (Sum.inl ())))
noncomputable def tocsinlaw04_same (a0 : List S49) (a1 : List S49) : Option Bool :=
  bif ((a0.length : Int) != (a1.length : Int)) then
  (some false)
  else
  (Option.bind (loopO (tocsinlaw04_same_l18 a0 a1) 0) fun (r6 : (Unit) ⊕ (Bool)) =>
    match r6 with
    | Sum.inl r14 => some true
    | Sum.inr v38 => some v38)
theorem tocsinlaw04_same_walk {a0 : List S49} {A0_0 : Option Addr} {n0_0 : Nat} {a1 : List S49} {A1_0 : Option Addr} {n1_0 : Nat} {I : Imm} {r : Bool}  (hf0_0 : RepS kS49 I A0_0 n0_0 a0)  (hf1_0 : RepS kS49 I A1_0 n1_0 a1) (hr : tocsinlaw04_same a0 a1 = some r) (L : Own) :
    CallsTo Tryz.prog 27 #[.slice A0_0 a0.length n0_0, .slice A1_0 a1.length n1_0] I L (fun v I' L' => v = .bool r ∧ L = L') := by
  unfold tocsinlaw04_same at hr
  refine callsTo_body (N := 26) Tryz.func27 (by kernel_rfl) (by kernel_rfl) (by kernel_rfl) ?_
  refine gk_pick [0, 1] (K' := [(0, .slice A0_0 a0.length n0_0), (1, .slice A1_0 a1.length n1_0)]) (by kernel_rfl) ?_
  refine gk_seq (by kernel_rfl) ?_
  refine gk_region (by kernel_rfl) ?_
  refine gl_pure 1 [0, 1] (K' := [(0, .slice A0_0 a0.length n0_0), (1, .slice A1_0 a1.length n1_0)]) (by kernel_rfl) ?_
  refine gl_atE (by kernel_rfl) ?_
  refine ge_seq ?_
  refine gk_seq (by kernel_rfl) ?_
  refine gk_seq (by kernel_rfl) ?_
  refine gk_region (by kernel_rfl) ?_
  refine gl_pure 5 [0, 1, 10] (K' := [(0, .slice A0_0 a0.length n0_0), (1, .slice A1_0 a1.length n1_0), (10, .bool ((a0.length : Int) != (a1.length : Int)))]) (by kernel_rfl) ?_
  refine gl_atE (by kernel_rfl) ?_
  refine ge_seq ?_
  refine gk_cond (b := ((a0.length : Int) != (a1.length : Int))) (by kernel_rfl) (by kernel_rfl) (fun hc1 => ?_) (fun hc1 => ?_)
  · have hr := cond_t hc1 hr
    refine gk_seq (by kernel_rfl) ?_
    refine gk_region (by kernel_rfl) ?_
    refine gl_pure 1 [4] (K' := [(4, .bool false)]) (by kernel_rfl) ?_
    refine gl_atE (by kernel_rfl) ?_
    refine ge_seq ?_
    refine gk_ret (by kernel_rfl) ?_
    refine ge_seq_ret ?_
    obtain rfl := some_inj hr
    exact ge_result trivial (ResOk.tmp (by kernel_rfl) ResOk.nil) (Imm.refl _) ⟨rfl, rfl⟩
  · have hr := cond_f hc1 hr
    refine gk_skip (by kernel_rfl) ?_
    refine ge_seq ?_
    refine gk_seq (by kernel_rfl) ?_
    refine gk_seq (by kernel_rfl) ?_
    refine gk_region (by kernel_rfl) ?_
    refine gl_pure 3 [0, 1, 12, 13] (K' := [(0, .slice A0_0 a0.length n0_0), (1, .slice A1_0 a1.length n1_0), (12, .int .i64 (a0.length : Int)), (13, .int .i64 0)]) (by kernel_rfl) ?_
    refine gl_atE (by kernel_rfl) ?_
    refine ge_seq ?_
    obtain ⟨r6, hl7, hr⟩ := bind_some hr
    refine gk_join (fun t I' L' => ∃ r14, r6 = Sum.inl r14 ∧ I ≤ I' ∧ L = L' ∧ Knows 26 [] t) ?_ ?_
    · refine gk_block (by kernel_rfl) ?_
      refine gk_pick [0, 1, 12, 13] (K' := [(0, .slice A0_0 a0.length n0_0), (1, .slice A1_0 a1.length n1_0), (12, .int .i64 (a0.length : Int)), (13, .int .i64 0)]) (by kernel_rfl) ?_
      intro t hK
      refine gc_loop (tocsinlaw04_same_l18 a0 a1) (fun s8 t I' L' => I ≤ I' ∧ L = L' ∧ Knows 26 [(0, .slice A0_0 a0.length n0_0), (1, .slice A1_0 a1.length n1_0), (12, .int .i64 (a0.length : Int)), (13, .int .i64 s8)] t) (by kernel_rfl) ?_ hl7 ⟨(Imm.refl _), rfl, hK⟩
      rintro s8 o9 t I13 L' hb10 ⟨hI11, rfl, hK12⟩
      unfold tocsinlaw04_same_l18 at hb10
      refine gk_at hK12 ?_
      refine gk_seq (by kernel_rfl) ?_
      refine gk_region (by kernel_rfl) ?_
      refine gl_pure 1 [0, 1, 12, 13, 14] (K' := [(0, .slice A0_0 a0.length n0_0), (1, .slice A1_0 a1.length n1_0), (12, .int .i64 (a0.length : Int)), (13, .int .i64 s8), (14, .bool (decide (s8 < (a0.length : Int))))]) (by kernel_rfl) ?_
      refine gl_atE (by kernel_rfl) ?_
      refine ge_seq ?_
      refine gk_seq (by kernel_rfl) ?_
      refine gk_cond (b := (decide (s8 < (a0.length : Int)))) (by kernel_rfl) (by kernel_rfl) (fun hc20 => ?_) (fun hc20 => ?_)
      · have hb10 := cond_t hc20 hb10
        refine gk_skip (by kernel_rfl) ?_
        refine ge_seq ?_
        refine gk_seq (by kernel_rfl) ?_
        refine gk_block (by kernel_rfl) ?_
        refine gk_seq (by kernel_rfl) ?_
        refine gk_region (by kernel_rfl) ?_
        refine gl_pure 2 [0, 1, 5, 12, 13] (K' := [(0, .slice A0_0 a0.length n0_0), (1, .slice A1_0 a1.length n1_0), (5, .int .i64 s8), (12, .int .i64 (a0.length : Int)), (13, .int .i64 s8)]) (by kernel_rfl) ?_
        refine gl_atE (by kernel_rfl) ?_
        refine ge_seq ?_
        refine gk_seq (by kernel_rfl) ?_
        refine gk_draw 9 [(0, true), (1, true), (2, true), (3, true), (4, true), (5, true), (6, true), (7, true), (8, true)] [] (fun p hp => by cases hp) (by kernel_rfl) (by kernel_rfl) (by kernel_rfl) ?_ (by kernel_rfl)
        refine gd_pure 2 [0, 1, 5, 12, 13, 16, 17] (K' := [(0, .slice A0_0 a0.length n0_0), (1, .slice A1_0 a1.length n1_0), (5, .int .i64 s8), (12, .int .i64 (a0.length : Int)), (13, .int .i64 s8), (16, .slice A0_0 a0.length n0_0), (17, .int .i64 s8)]) (s' := [(2, true), (3, true), (4, true), (5, true), (6, true), (7, true), (8, true)]) (CC.refl (fun p hp => by cases hp)) (by kernel_rfl) ?_
        obtain ⟨x21, hx22, hb10⟩ := bind_some hb10
        obtain ⟨p23, cs24, hR25, hA26, ha27⟩ := RepS.ixAt hx22 (hf0_0.mono hI11)
        have hi28 := ix_some hx22
        obtain rfl := kS49_open hR25
        refine gd_q (v := .pointer (some p23)) (by kernel_rfl) (by kernel_rfl) (CC.refl (fun p hp => by cases hp)) (fun I' L' T hC kk => gl_indexAddrF (c := n0_0) (T' := 22) (e := 50) (xs := (.tmp 16)) (xi := (.tmp 17)) (kd := .i64) ha27 hi28.1 hi28.2.1 (by kernel_rfl) (by kernel_rfl) (by kernel_rfl) (by kernel_rfl) (by kernel_rfl) kk) ?_
        refine gd_q (v := .agg #[.string x21.f0, .string x21.f1]) (by kernel_rfl) (by kernel_rfl) (CC.refl (fun p hp => by cases hp)) (fun I' L' T hC kk => gl_loadA (T' := 50) (xp := (.tmp 18)) (p := p23) (cs := [.string x21.f0, .string x21.f1]) (by kernel_rfl) (by kernel_rfl) (by kernel_rfl) (by kernel_rfl) ((hA26.mono hC.le).take 2) kk) ?_
        refine gd_pure 2 [0, 1, 12, 13, 19, 20, 21] (K' := [(0, .slice A0_0 a0.length n0_0), (1, .slice A1_0 a1.length n1_0), (12, .int .i64 (a0.length : Int)), (13, .int .i64 s8), (19, .agg #[.string x21.f0, .string x21.f1]), (20, .slice A1_0 a1.length n1_0), (21, .int .i64 s8)]) (s' := [(6, true), (7, true), (8, true)]) (CC.refl (fun p hp => by cases hp)) (by kernel_rfl) ?_
        obtain ⟨x29, hx30, hb10⟩ := bind_some hb10
        obtain ⟨p31, cs32, hR33, hA34, ha35⟩ := RepS.ixAt hx30 (hf1_0.mono hI11)
        have hi36 := ix_some hx30
        obtain rfl := kS49_open hR33
        refine gd_q (v := .pointer (some p31)) (by kernel_rfl) (by kernel_rfl) (CC.refl (fun p hp => by cases hp)) (fun I' L' T hC kk => gl_indexAddrF (c := n1_0) (T' := 22) (e := 50) (xs := (.tmp 20)) (xi := (.tmp 21)) (kd := .i64) ha35 hi36.1 hi36.2.1 (by kernel_rfl) (by kernel_rfl) (by kernel_rfl) (by kernel_rfl) (by kernel_rfl) kk) ?_
        refine gd_q (v := .agg #[.string x29.f0, .string x29.f1]) (by kernel_rfl) (by kernel_rfl) (CC.refl (fun p hp => by cases hp)) (fun I' L' T hC kk => gl_loadA (T' := 50) (xp := (.tmp 22)) (p := p31) (cs := [.string x29.f0, .string x29.f1]) (by kernel_rfl) (by kernel_rfl) (by kernel_rfl) (by kernel_rfl) ((hA34.mono hC.le).take 2) kk) ?_
        refine gd_q (v := .bool (!((x21.f0.toList == x29.f0.toList) && (x21.f1.toList == x29.f1.toList)))) (by kernel_rfl) (by kernel_rfl) (CC.refl (fun p hp => by cases hp)) (fun I' L' T hC kk => gl_eqAgg (cx := #[.string x21.f0, .string x21.f1]) (cy := #[.string x29.f0, .string x29.f1]) (n := true) (t := 50) (t' := 50) (x := (.tmp 19)) (y := (.tmp 23)) (b := ((x21.f0.toList == x29.f0.toList) && (x21.f1.toList == x29.f1.toList))) (by kernel_rfl) (by kernel_rfl) (by kernel_rfl) (by kernel_rfl) (by kernel_rfl) kk) ?_
        refine gd_done ?_
        refine gl_atE (by kernel_rfl) ?_
        refine ge_seq ?_
        refine gk_cond (b := (!((x21.f0.toList == x29.f0.toList) && (x21.f1.toList == x29.f1.toList)))) (by kernel_rfl) (by kernel_rfl) (fun hc37 => ?_) (fun hc37 => ?_)
        · have hb10 := cond_t hc37 hb10
          refine gk_seq (by kernel_rfl) ?_
          refine gk_region (by kernel_rfl) ?_
          refine gl_pure 1 [4] (K' := [(4, .bool false)]) (by kernel_rfl) ?_
          refine gl_atE (by kernel_rfl) ?_
          refine ge_seq ?_
          refine gk_ret (by kernel_rfl) ?_
          refine ge_block_ret ?_
          refine ge_seq_ret ?_
          obtain rfl := some_inj hb10
          refine ge_round_out (fun hrr => ?_) (by intro h; cases h)
          obtain rfl := hrr
          refine ge_block_ret ?_
          refine ge_seq_ret ?_
          refine ge_seq_ret ?_
          obtain rfl := some_inj hr
          exact ge_result trivial (ResOk.tmp (by kernel_rfl) ResOk.nil) hI11 ⟨rfl, rfl⟩
        · have hb10 := cond_f hc37 hb10
          refine gk_skip (by kernel_rfl) ?_
          refine ge_block_normal ?_
          refine ge_seq ?_
          refine gk_region (by kernel_rfl) ?_
          refine gl_pure 2 [0, 1, 12, 13] (K' := [(0, .slice A0_0 a0.length n0_0), (1, .slice A1_0 a1.length n1_0), (12, .int .i64 (a0.length : Int)), (13, .int .i64 (IntKind.wrap .i64 (s8 + 1)))]) (by kernel_rfl) ?_
          refine gl_atE (by kernel_rfl) ?_
          obtain rfl := some_inj hb10
          exact ge_round fun t ht => ⟨hI11, rfl, ht.pick (l := [0, 1, 12, 13]) (by kernel_rfl)⟩
      · have hb10 := cond_f hc20 hb10
        refine gk_exit (by kernel_rfl) ?_
        refine ge_seq_exit ?_
        obtain rfl := some_inj hb10
        refine ge_round_out (fun hrr => ?_) (by intro h; cases h)
        obtain rfl := hrr
        refine ge_block_hit (by kernel_rfl) ?_
        exact ge_mid fun t ht => ⟨_, rfl, hI11, rfl, ht.pick (l := []) (by kernel_rfl)⟩
    · rintro t I17 L' ⟨r14, rfl, hI15, rfl, hK16⟩
      refine ge_at hK16 ?_
      refine ge_seq ?_
      refine gk_seq (by kernel_rfl) ?_
      refine gk_region (by kernel_rfl) ?_
      refine gl_pure 1 [4] (K' := [(4, .bool true)]) (by kernel_rfl) ?_
      refine gl_atE (by kernel_rfl) ?_
      refine ge_seq ?_
      refine gk_ret (by kernel_rfl) ?_
      obtain rfl := some_inj hr
      exact ge_result trivial (ResOk.tmp (by kernel_rfl) ResOk.nil) hI15 ⟨rfl, rfl⟩
/-! 21 tocsinlaw04_Kept ('vis', 'imm') -/
/-! 21 tocsinlaw04_Kept_f21  -/
structure S89 where
  f0 : ByteArray
  f1 : Int
  f2 : Int
/-! 67 labels_reader_blanks ('obj',) -/
noncomputable def labels_reader_blanks_l16 (a0 : S89) : Int → Option ((Int) ⊕ (Int)) := fun s7 =>
  Option.bind (bif (decide (s7 < (a0.f0.size : Int))) then
    (Option.bind (bx a0.f0 s7) fun (c24 : Int) =>
      bif (c24 == 32) then
      (some true)
      else
      (Option.bind (bx a0.f0 s7) fun (c27 : Int) =>
        some (c27 == 9)))
    else
    (some false)) fun (j18 : Bool) =>
  bif j18 then
  (some (Sum.inl (IntKind.wrap .i64 (s7 + 1))))
  else
  (some (Sum.inr s7))
noncomputable def labels_reader_blanks (a0 : S89) : Option S89 :=
  Option.bind (loopO (labels_reader_blanks_l16 a0) a0.f1) fun (r5 : Int) =>
  some (⟨a0.f0, r5, a0.f2⟩ : S89)
theorem labels_reader_blanks_walk {a0 : S89} {g0 : Nat} {T0 : TypeId} {I : Imm} {r : S89}  (hr : labels_reader_blanks a0 = some r) (L : Own) :
    CallsTo Tryz.prog 67 #[.pointer (some ⟨g0, 0, none⟩)] I ((g0, .cells #[.string a0.f0, .int .i64 a0.f1, .int .i64 a0.f2] T0) :: L) (fun v I' L' => v = .tuple #[] ∧ (g0, .cells #[.string r.f0, .int .i64 r.f1, .int .i64 r.f2] T0) :: L = L') := by
  unfold labels_reader_blanks at hr
  refine callsTo_body (N := 43) Tryz.func67 (by kernel_rfl) (by kernel_rfl) (by kernel_rfl) ?_
  refine gk_pick [0] (K' := [(0, .pointer (some ⟨g0, 0, none⟩))]) (by kernel_rfl) ?_
  obtain ⟨r5, hl6, hr⟩ := bind_some hr
  refine gk_join (fun t I' L' => I ≤ I' ∧ (g0, .cells #[.string a0.f0, .int .i64 r5, .int .i64 a0.f2] T0) :: L = L' ∧ Knows 43 [] t) ?_ ?_
  · refine gk_block (by kernel_rfl) ?_
    refine gk_pick [0] (K' := [(0, .pointer (some ⟨g0, 0, none⟩))]) (by kernel_rfl) ?_
    intro t hK
    refine gc_loop (labels_reader_blanks_l16 a0) (fun s7 t I' L' => I ≤ I' ∧ (g0, .cells #[.string a0.f0, .int .i64 s7, .int .i64 a0.f2] T0) :: L = L' ∧ Knows 43 [(0, .pointer (some ⟨g0, 0, none⟩))] t) (by kernel_rfl) ?_ hl6 ⟨(Imm.refl _), rfl, hK⟩
    rintro s7 o8 t I12 L' hb9 ⟨hI10, rfl, hK11⟩
    unfold labels_reader_blanks_l16 at hb9
    refine gk_at hK11 ?_
    refine gk_seq (by kernel_rfl) ?_
    refine gk_seq (by kernel_rfl) ?_
    obtain ⟨j18, hj19, hb9⟩ := bind_some hb9
    refine gk_join (fun t I' L' => I12 ≤ I' ∧ (g0, .cells #[.string a0.f0, .int .i64 s7, .int .i64 a0.f2] T0) :: L = L' ∧ Knows 43 [(0, .pointer (some ⟨g0, 0, none⟩)), (35, .bool j18)] t) ?_ ?_
    · refine gk_draw 34 [(0, true), (1, true), (2, true), (3, true), (4, true), (5, true), (6, true), (7, true), (8, true), (9, true), (10, true), (11, true), (12, true), (13, true), (14, true), (15, true), (16, true), (17, true), (18, true), (19, true), (20, true), (21, true), (22, true), (23, true), (24, true), (25, true), (26, true), (27, true), (28, true), (29, true), (30, true), (31, true), (32, true), (33, true)] [(g0, .cells #[.string a0.f0, .int .i64 s7, .int .i64 a0.f2] T0)] (List.forall_mem_cons.2 ⟨List.mem_cons_self, (fun p hp => by cases hp)⟩) (by kernel_rfl) (by kernel_rfl) (by kernel_rfl) ?_ (by kernel_rfl)
      refine gd_pure 3 [0, 4] (K' := [(0, .pointer (some ⟨g0, 0, none⟩)), (4, .pointer (some ⟨g0, 1, none⟩))]) (s' := [(3, true), (4, true), (5, true), (6, true), (7, true), (8, true), (9, true), (10, true), (11, true), (12, true), (13, true), (14, true), (15, true), (16, true), (17, true), (18, true), (19, true), (20, true), (21, true), (22, true), (23, true), (24, true), (25, true), (26, true), (27, true), (28, true), (29, true), (30, true), (31, true), (32, true), (33, true)]) (CC.refl (List.forall_mem_cons.2 ⟨List.mem_cons_self, (fun p hp => by cases hp)⟩)) (by kernel_rfl) ?_
      refine gd_q (v := .int .i64 s7) (by kernel_rfl) (by kernel_rfl) (CC.refl (List.forall_mem_cons.2 ⟨List.mem_cons_self, (fun p hp => by cases hp)⟩)) (fun I' L' T hC kk => gl_loadB (T' := 3) (xp := (.tmp 4)) (v := .int .i64 s7) (g := g0) (off := 1) (cs := #[.string a0.f0, .int .i64 s7, .int .i64 a0.f2]) (e := T0) (fz := (0, 0)) (by kernel_rfl) (by kernel_rfl) (by kernel_rfl) (hC.sub _ List.mem_cons_self) (by kernel_rfl) kk) ?_
      refine gd_pure 3 [0, 5, 8] (K' := [(0, .pointer (some ⟨g0, 0, none⟩)), (5, .int .i64 s7), (8, .pointer (some ⟨g0, 0, none⟩))]) (s' := [(7, true), (8, true), (9, true), (10, true), (11, true), (12, true), (13, true), (14, true), (15, true), (16, true), (17, true), (18, true), (19, true), (20, true), (21, true), (22, true), (23, true), (24, true), (25, true), (26, true), (27, true), (28, true), (29, true), (30, true), (31, true), (32, true), (33, true)]) (CC.refl (List.forall_mem_cons.2 ⟨List.mem_cons_self, (fun p hp => by cases hp)⟩)) (by kernel_rfl) ?_
      refine gd_q (v := .string a0.f0) (by kernel_rfl) (by kernel_rfl) (CC.refl (List.forall_mem_cons.2 ⟨List.mem_cons_self, (fun p hp => by cases hp)⟩)) (fun I' L' T hC kk => gl_loadB (T' := 9) (xp := (.tmp 8)) (v := .string a0.f0) (g := g0) (off := 0) (cs := #[.string a0.f0, .int .i64 s7, .int .i64 a0.f2]) (e := T0) (fz := (0, 0)) (by kernel_rfl) (by kernel_rfl) (by kernel_rfl) (hC.sub _ List.mem_cons_self) (by kernel_rfl) kk) ?_
      refine gd_pure 3 [0, 12] (K' := [(0, .pointer (some ⟨g0, 0, none⟩)), (12, .bool (decide (s7 < (a0.f0.size : Int))))]) (s' := [(11, true), (12, true), (13, true), (14, true), (15, true), (16, true), (17, true), (18, true), (19, true), (20, true), (21, true), (22, true), (23, true), (24, true), (25, true), (26, true), (27, true), (28, true), (29, true), (30, true), (31, true), (32, true), (33, true)]) (CC.refl (List.forall_mem_cons.2 ⟨List.mem_cons_self, (fun p hp => by cases hp)⟩)) (by kernel_rfl) ?_
      refine gd_case 12 (b := (decide (s7 < (a0.f0.size : Int)))) (by kernel_rfl) (fun hc23 => ?_) (fun hc23 => ?_)
      · have hj19 := cond_t hc23 hj19
        refine gd_pure 3 [0, 12, 15] (K' := [(0, .pointer (some ⟨g0, 0, none⟩)), (12, .bool true), (15, .pointer (some ⟨g0, 0, none⟩))]) (s' := [(14, true), (15, true), (16, true), (17, true), (18, true), (19, true), (20, true), (21, true), (22, true), (23, true), (24, true), (25, true), (26, true), (27, true), (28, true), (29, true), (30, true), (31, true), (32, true), (33, true)]) (CC.refl (List.forall_mem_cons.2 ⟨List.mem_cons_self, (fun p hp => by cases hp)⟩)) (by kernel_rfl) ?_
        refine gd_q (v := .string a0.f0) (by kernel_rfl) (by kernel_rfl) (CC.refl (List.forall_mem_cons.2 ⟨List.mem_cons_self, (fun p hp => by cases hp)⟩)) (fun I' L' T hC kk => gl_loadB (T' := 9) (xp := (.tmp 15)) (v := .string a0.f0) (g := g0) (off := 0) (cs := #[.string a0.f0, .int .i64 s7, .int .i64 a0.f2]) (e := T0) (fz := (0, 0)) (by kernel_rfl) (by kernel_rfl) (by kernel_rfl) (hC.sub _ List.mem_cons_self) (by kernel_rfl) kk) ?_
        refine gd_pure 3 [0, 12, 16, 19] (K' := [(0, .pointer (some ⟨g0, 0, none⟩)), (12, .bool true), (16, .string a0.f0), (19, .pointer (some ⟨g0, 1, none⟩))]) (s' := [(18, true), (19, true), (20, true), (21, true), (22, true), (23, true), (24, true), (25, true), (26, true), (27, true), (28, true), (29, true), (30, true), (31, true), (32, true), (33, true)]) (CC.refl (List.forall_mem_cons.2 ⟨List.mem_cons_self, (fun p hp => by cases hp)⟩)) (by kernel_rfl) ?_
        refine gd_q (v := .int .i64 s7) (by kernel_rfl) (by kernel_rfl) (CC.refl (List.forall_mem_cons.2 ⟨List.mem_cons_self, (fun p hp => by cases hp)⟩)) (fun I' L' T hC kk => gl_loadB (T' := 3) (xp := (.tmp 19)) (v := .int .i64 s7) (g := g0) (off := 1) (cs := #[.string a0.f0, .int .i64 s7, .int .i64 a0.f2]) (e := T0) (fz := (0, 0)) (by kernel_rfl) (by kernel_rfl) (by kernel_rfl) (hC.sub _ List.mem_cons_self) (by kernel_rfl) kk) ?_
        obtain ⟨c24, hx25, hj19⟩ := bind_some hj19
        refine gd_q (v := .int .u8 c24) (by kernel_rfl) (by kernel_rfl) (CC.refl (List.forall_mem_cons.2 ⟨List.mem_cons_self, (fun p hp => by cases hp)⟩)) (fun I' L' T hC kk => gl_index' (T' := 9) (xs := (.tmp 16)) (xi := (.tmp 20)) (kd := .i64) hx25 (by kernel_rfl) (by kernel_rfl) (by kernel_rfl) (by kernel_rfl) (by kernel_rfl) kk) ?_
        refine gd_pure 2 [0, 12, 23] (K' := [(0, .pointer (some ⟨g0, 0, none⟩)), (12, .bool true), (23, .bool (c24 == 32))]) (s' := [(22, true), (23, true), (24, true), (25, true), (26, true), (27, true), (28, true), (29, true), (30, true), (31, true), (32, true), (33, true)]) (CC.refl (List.forall_mem_cons.2 ⟨List.mem_cons_self, (fun p hp => by cases hp)⟩)) (by kernel_rfl) ?_
        refine gd_case 23 (b := (c24 == 32)) (by kernel_rfl) (fun hc26 => ?_) (fun hc26 => ?_)
        · have hj19 := cond_t hc26 hj19
          refine gd_pure 12 [0, 35] (K' := [(0, .pointer (some ⟨g0, 0, none⟩)), (35, .bool true)]) (s' := []) (CC.refl (List.forall_mem_cons.2 ⟨List.mem_cons_self, (fun p hp => by cases hp)⟩)) (by kernel_rfl) ?_
          refine gd_done ?_
          refine gl_atE (by kernel_rfl) ?_
          obtain rfl := some_inj hj19
          exact ge_mid fun t ht => ⟨(Imm.refl _), rfl, ht.pick (l := [0, 35]) (by kernel_rfl)⟩
        · have hj19 := cond_f hc26 hj19
          refine gd_pure 3 [0, 12, 23, 26] (K' := [(0, .pointer (some ⟨g0, 0, none⟩)), (12, .bool true), (23, .bool false), (26, .pointer (some ⟨g0, 0, none⟩))]) (s' := [(25, true), (26, true), (27, true), (28, true), (29, true), (30, true), (31, true), (32, true), (33, true)]) (CC.refl (List.forall_mem_cons.2 ⟨List.mem_cons_self, (fun p hp => by cases hp)⟩)) (by kernel_rfl) ?_
          refine gd_q (v := .string a0.f0) (by kernel_rfl) (by kernel_rfl) (CC.refl (List.forall_mem_cons.2 ⟨List.mem_cons_self, (fun p hp => by cases hp)⟩)) (fun I' L' T hC kk => gl_loadB (T' := 9) (xp := (.tmp 26)) (v := .string a0.f0) (g := g0) (off := 0) (cs := #[.string a0.f0, .int .i64 s7, .int .i64 a0.f2]) (e := T0) (fz := (0, 0)) (by kernel_rfl) (by kernel_rfl) (by kernel_rfl) (hC.sub _ List.mem_cons_self) (by kernel_rfl) kk) ?_
          refine gd_pure 3 [0, 12, 23, 27, 30] (K' := [(0, .pointer (some ⟨g0, 0, none⟩)), (12, .bool true), (23, .bool false), (27, .string a0.f0), (30, .pointer (some ⟨g0, 1, none⟩))]) (s' := [(29, true), (30, true), (31, true), (32, true), (33, true)]) (CC.refl (List.forall_mem_cons.2 ⟨List.mem_cons_self, (fun p hp => by cases hp)⟩)) (by kernel_rfl) ?_
          refine gd_q (v := .int .i64 s7) (by kernel_rfl) (by kernel_rfl) (CC.refl (List.forall_mem_cons.2 ⟨List.mem_cons_self, (fun p hp => by cases hp)⟩)) (fun I' L' T hC kk => gl_loadB (T' := 3) (xp := (.tmp 30)) (v := .int .i64 s7) (g := g0) (off := 1) (cs := #[.string a0.f0, .int .i64 s7, .int .i64 a0.f2]) (e := T0) (fz := (0, 0)) (by kernel_rfl) (by kernel_rfl) (by kernel_rfl) (hC.sub _ List.mem_cons_self) (by kernel_rfl) kk) ?_
          obtain ⟨c27, hx28, hj19⟩ := bind_some hj19
          refine gd_q (v := .int .u8 c27) (by kernel_rfl) (by kernel_rfl) (CC.refl (List.forall_mem_cons.2 ⟨List.mem_cons_self, (fun p hp => by cases hp)⟩)) (fun I' L' T hC kk => gl_index' (T' := 9) (xs := (.tmp 27)) (xi := (.tmp 31)) (kd := .i64) hx28 (by kernel_rfl) (by kernel_rfl) (by kernel_rfl) (by kernel_rfl) (by kernel_rfl) kk) ?_
          refine gd_pure 3 [0, 35] (K' := [(0, .pointer (some ⟨g0, 0, none⟩)), (35, .bool (c27 == 9))]) (s' := []) (CC.refl (List.forall_mem_cons.2 ⟨List.mem_cons_self, (fun p hp => by cases hp)⟩)) (by kernel_rfl) ?_
          refine gd_done ?_
          refine gl_atE (by kernel_rfl) ?_
          obtain rfl := some_inj hj19
          exact ge_mid fun t ht => ⟨(Imm.refl _), rfl, ht.pick (l := [0, 35]) (by kernel_rfl)⟩
      · have hj19 := cond_f hc23 hj19
        refine gd_pure 23 [0, 35] (K' := [(0, .pointer (some ⟨g0, 0, none⟩)), (35, .bool false)]) (s' := []) (CC.refl (List.forall_mem_cons.2 ⟨List.mem_cons_self, (fun p hp => by cases hp)⟩)) (by kernel_rfl) ?_
        refine gd_done ?_
        refine gl_atE (by kernel_rfl) ?_
        obtain rfl := some_inj hj19
        exact ge_mid fun t ht => ⟨(Imm.refl _), rfl, ht.pick (l := [0, 35]) (by kernel_rfl)⟩
    · rintro t I22 L' ⟨hI20, rfl, hK21⟩
      refine ge_at hK21 ?_
      refine ge_seq ?_
      refine gk_cond (b := j18) (by kernel_rfl) (by kernel_rfl) (fun hc29 => ?_) (fun hc29 => ?_)
      · have hb9 := cond_t hc29 hb9
        refine gk_skip (by kernel_rfl) ?_
        refine ge_seq ?_
        refine gk_block (by kernel_rfl) ?_
        refine gk_region (by kernel_rfl) ?_
        refine gl_pure 3 [0, 36, 38] (K' := [(0, .pointer (some ⟨g0, 0, none⟩)), (36, .pointer (some ⟨g0, 0, none⟩)), (38, .pointer (some ⟨g0, 1, none⟩))]) (by kernel_rfl) ?_
        refine gl_loadB (T' := 3) (xp := (.tmp 38)) (v := .int .i64 s7) (g := g0) (off := 1) (cs := #[.string a0.f0, .int .i64 s7, .int .i64 a0.f2]) (e := T0) (fz := (0, 0)) (by kernel_rfl) (by kernel_rfl) (by kernel_rfl) List.mem_cons_self (by kernel_rfl) ?_
        refine gl_pure 3 [0, 40, 42] (K' := [(0, .pointer (some ⟨g0, 0, none⟩)), (40, .int .i64 (IntKind.wrap .i64 (s7 + 1))), (42, .pointer (some ⟨g0, 1, none⟩))]) (by kernel_rfl) ?_
        refine gl_storeB (T' := 3) (xp := (.tmp 42)) (xv := (.tmp 40)) (v := .int .i64 (IntKind.wrap .i64 (s7 + 1))) (g := g0) (off := 1) (cs := #[.string a0.f0, .int .i64 s7, .int .i64 a0.f2]) (cs' := #[.string a0.f0, .int .i64 (IntKind.wrap .i64 (s7 + 1)), .int .i64 a0.f2]) (by kernel_rfl) (by kernel_rfl) (by kernel_rfl) (by kernel_rfl) (by kernel_rfl) (Upd.set _ _ _ _) ?_ (by kernel_rfl)
        refine gl_atE (by kernel_rfl) ?_
        refine ge_block_normal ?_
        obtain rfl := some_inj hb9
        exact ge_round fun t ht => ⟨(Imm.trans hI10 hI20), rfl, ht.pick (l := [0]) (by kernel_rfl)⟩
      · have hb9 := cond_f hc29 hb9
        refine gk_exit (by kernel_rfl) ?_
        refine ge_seq_exit ?_
        obtain rfl := some_inj hb9
        refine ge_round_out (fun hrr => ?_) (by intro h; cases h)
        obtain rfl := hrr
        refine ge_block_hit (by kernel_rfl) ?_
        exact ge_mid fun t ht => ⟨(Imm.trans hI10 hI20), rfl, ht.pick (l := []) (by kernel_rfl)⟩
  · rintro t I15 L' ⟨hI13, rfl, hK14⟩
    refine ge_at hK14 ?_
    obtain rfl := some_inj hr
    exact ge_result trivial ResOk.nil hI13 ⟨rfl, rfl⟩
/-! 71 labels_reader_fail ('obj', 'imm') -/
noncomputable def labels_reader_fail (a0 : S89) (a1 : Int) : Option S89 :=
  Option.bind (bif (decide (a0.f2 < 0)) then
    (some a1)
    else
    (some a0.f2)) fun (j1 : Int) =>
  some (⟨a0.f0, a0.f1, j1⟩ : S89)
theorem labels_reader_fail_walk {a0 : S89} {g0 : Nat} {T0 : TypeId} {a1 : Int} {I : Imm} {r : S89}  (hr : labels_reader_fail a0 a1 = some r) (L : Own) :
    CallsTo Tryz.prog 71 #[.pointer (some ⟨g0, 0, none⟩), .int .i64 a1] I ((g0, .cells #[.string a0.f0, .int .i64 a0.f1, .int .i64 a0.f2] T0) :: L) (fun v I' L' => v = .tuple #[] ∧ (g0, .cells #[.string r.f0, .int .i64 r.f1, .int .i64 r.f2] T0) :: L = L') := by
  unfold labels_reader_fail at hr
  refine callsTo_body (N := 13) Tryz.func71 (by kernel_rfl) (by kernel_rfl) (by kernel_rfl) ?_
  refine gk_pick [0, 1] (K' := [(0, .pointer (some ⟨g0, 0, none⟩)), (1, .int .i64 a1)]) (by kernel_rfl) ?_
  refine gk_seq (by kernel_rfl) ?_
  refine gk_region (by kernel_rfl) ?_
  refine gl_pure 3 [0, 1, 6] (K' := [(0, .pointer (some ⟨g0, 0, none⟩)), (1, .int .i64 a1), (6, .pointer (some ⟨g0, 2, none⟩))]) (by kernel_rfl) ?_
  refine gl_loadB (T' := 3) (xp := (.tmp 6)) (v := .int .i64 a0.f2) (g := g0) (off := 2) (cs := #[.string a0.f0, .int .i64 a0.f1, .int .i64 a0.f2]) (e := T0) (fz := (0, 0)) (by kernel_rfl) (by kernel_rfl) (by kernel_rfl) List.mem_cons_self (by kernel_rfl) ?_
  refine gl_pure 1 [0, 1, 8] (K' := [(0, .pointer (some ⟨g0, 0, none⟩)), (1, .int .i64 a1), (8, .bool (decide (a0.f2 < 0)))]) (by kernel_rfl) ?_
  refine gl_atE (by kernel_rfl) ?_
  refine ge_seq ?_
  obtain ⟨j1, hj2, hr⟩ := bind_some hr
  refine gk_join (fun t I' L' => I ≤ I' ∧ (g0, .cells #[.string a0.f0, .int .i64 a0.f1, .int .i64 j1] T0) :: L = L' ∧ Knows 13 [] t) ?_ ?_
  · refine gk_cond (b := (decide (a0.f2 < 0))) (by kernel_rfl) (by kernel_rfl) (fun hc6 => ?_) (fun hc6 => ?_)
    · have hj2 := cond_t hc6 hj2
      refine gk_region (by kernel_rfl) ?_
      refine gl_pure 4 [10, 12] (K' := [(10, .int .i64 a1), (12, .pointer (some ⟨g0, 2, none⟩))]) (by kernel_rfl) ?_
      refine gl_storeB (T' := 3) (xp := (.tmp 12)) (xv := (.tmp 10)) (v := .int .i64 a1) (g := g0) (off := 2) (cs := #[.string a0.f0, .int .i64 a0.f1, .int .i64 a0.f2]) (cs' := #[.string a0.f0, .int .i64 a0.f1, .int .i64 a1]) (by kernel_rfl) (by kernel_rfl) (by kernel_rfl) (by kernel_rfl) (by kernel_rfl) (Upd.set _ _ _ _) ?_ (by kernel_rfl)
      refine gl_atE (by kernel_rfl) ?_
      obtain rfl := some_inj hj2
      exact ge_mid fun t ht => ⟨(Imm.refl _), rfl, ht.pick (l := []) (by kernel_rfl)⟩
    · have hj2 := cond_f hc6 hj2
      refine gk_skip (by kernel_rfl) ?_
      obtain rfl := some_inj hj2
      exact ge_mid fun t ht => ⟨(Imm.refl _), rfl, ht.pick (l := []) (by kernel_rfl)⟩
  · rintro t I5 L' ⟨hI3, rfl, hK4⟩
    refine ge_at hK4 ?_
    obtain rfl := some_inj hr
    exact ge_result trivial ResOk.nil hI3 ⟨rfl, rfl⟩
/-! 68 labels_reader_name ('obj', 'imm') -/
noncomputable def labels_reader_name_l22 (a1 : Bool) (y2 : S89) : Int → Option ((Int) ⊕ (Int)) := fun s13 =>
  Option.bind (bif (decide (s13 < (y2.f0.size : Int))) then
    (Option.bind (bx y2.f0 s13) fun (c30 : Int) =>
      bif (labels_letter c30) then
      (some true)
      else
      (Option.bind (bx y2.f0 s13) fun (c33 : Int) =>
        bif (labels_digit c33) then
        (some true)
        else
        (bif a1 then
          (Option.bind (bx y2.f0 s13) fun (c37 : Int) =>
            some (c37 == 58))
          else
          (some false))))
    else
    (some false)) fun (j24 : Bool) =>
  bif j24 then
  (some (Sum.inl (IntKind.wrap .i64 (s13 + 1))))
  else
  (some (Sum.inr s13))
noncomputable def labels_reader_name (a0 : S89) (a1 : Bool) : Option (ByteArray × S89) :=
  bif (decide (a0.f2 ≥ 0)) then
  (some ((⟨#[]⟩ : ByteArray), a0))
  else
  (Option.bind (labels_reader_blanks a0) fun (y2 : S89) =>
    Option.bind (loopO (labels_reader_name_l22 a1 y2) y2.f1) fun (r11 : Int) =>
    Option.bind (sx y2.f0 y2.f1 r11) fun (s41 : ByteArray) =>
    Option.bind (bif a1 then
      (Option.bind (labels_Metric s41) fun (y48 : Bool) =>
        bif (!y48) then
        (some true)
        else
        (bif (!a1) then
          (Option.bind (labels_Name s41) fun (y52 : Bool) =>
            some (!y52))
          else
          (some false)))
      else
      (bif (!a1) then
        (Option.bind (labels_Name s41) fun (y55 : Bool) =>
          some (!y55))
        else
        (some false))) fun (j42 : Bool) =>
    Option.bind (bif j42 then
      (Option.bind (bif (s41.toList == (⟨#[]⟩ : ByteArray).toList) then
          (Option.bind (labels_reader_fail (⟨y2.f0, r11, y2.f2⟩ : S89) r11) fun (y69 : S89) =>
            some (y69.f0, y69.f1, y69.f2))
          else
          (some (y2.f0, r11, y2.f2))) fun (j63 : ByteArray × Int × Int) =>
        Option.bind (labels_reader_fail (⟨j63.1, j63.2.1, j63.2.2⟩ : S89) y2.f1) fun (y74 : S89) =>
        some (y74.f0, y74.f1, y74.f2))
      else
      (some (y2.f0, r11, y2.f2))) fun (j57 : ByteArray × Int × Int) =>
    some (s41, (⟨j57.1, j57.2.1, j57.2.2⟩ : S89)))
theorem labels_reader_name_walk {a0 : S89} {g0 : Nat} {T0 : TypeId} {a1 : Bool} {I : Imm} {r : ByteArray × S89}  (hr : labels_reader_name a0 a1 = some r) (L : Own) :
    CallsTo Tryz.prog 68 #[.pointer (some ⟨g0, 0, none⟩), .bool a1] I ((g0, .cells #[.string a0.f0, .int .i64 a0.f1, .int .i64 a0.f2] T0) :: L) (fun v I' L' => v = .string r.1 ∧ (g0, .cells #[.string r.2.f0, .int .i64 r.2.f1, .int .i64 r.2.f2] T0) :: L = L') := by
  unfold labels_reader_name at hr
  refine callsTo_body (N := 111) Tryz.func68 (by kernel_rfl) (by kernel_rfl) (by kernel_rfl) ?_
  refine gk_pick [0, 1] (K' := [(0, .pointer (some ⟨g0, 0, none⟩)), (1, .bool a1)]) (by kernel_rfl) ?_
  refine gk_seq (by kernel_rfl) ?_
  refine gk_region (by kernel_rfl) ?_
  refine gl_pure 1 [0, 1] (K' := [(0, .pointer (some ⟨g0, 0, none⟩)), (1, .bool a1)]) (by kernel_rfl) ?_
  refine gl_atE (by kernel_rfl) ?_
  refine ge_seq ?_
  refine gk_seq (by kernel_rfl) ?_
  refine gk_seq (by kernel_rfl) ?_
  refine gk_region (by kernel_rfl) ?_
  refine gl_pure 3 [0, 1, 9] (K' := [(0, .pointer (some ⟨g0, 0, none⟩)), (1, .bool a1), (9, .pointer (some ⟨g0, 2, none⟩))]) (by kernel_rfl) ?_
  refine gl_loadB (T' := 3) (xp := (.tmp 9)) (v := .int .i64 a0.f2) (g := g0) (off := 2) (cs := #[.string a0.f0, .int .i64 a0.f1, .int .i64 a0.f2]) (e := T0) (fz := (0, 0)) (by kernel_rfl) (by kernel_rfl) (by kernel_rfl) List.mem_cons_self (by kernel_rfl) ?_
  refine gl_pure 1 [0, 1, 11] (K' := [(0, .pointer (some ⟨g0, 0, none⟩)), (1, .bool a1), (11, .bool (decide (a0.f2 ≥ 0)))]) (by kernel_rfl) ?_
  refine gl_atE (by kernel_rfl) ?_
  refine ge_seq ?_
  refine gk_cond (b := (decide (a0.f2 ≥ 0))) (by kernel_rfl) (by kernel_rfl) (fun hc1 => ?_) (fun hc1 => ?_)
  · have hr := cond_t hc1 hr
    refine gk_seq (by kernel_rfl) ?_
    refine gk_region (by kernel_rfl) ?_
    refine gl_pure 1 [4] (K' := [(4, .string (⟨#[]⟩ : ByteArray))]) (by kernel_rfl) ?_
    refine gl_atE (by kernel_rfl) ?_
    refine ge_seq ?_
    refine gk_ret (by kernel_rfl) ?_
    refine ge_seq_ret ?_
    obtain rfl := some_inj hr
    exact ge_result trivial (ResOk.tmp (by kernel_rfl) ResOk.nil) (Imm.refl _) ⟨rfl, rfl⟩
  · have hr := cond_f hc1 hr
    refine gk_skip (by kernel_rfl) ?_
    refine ge_seq ?_
    refine gk_seq (by kernel_rfl) ?_
    refine gk_region (by kernel_rfl) ?_
    refine gl_pure 1 [0, 1, 12] (K' := [(0, .pointer (some ⟨g0, 0, none⟩)), (1, .bool a1), (12, .pointer (some ⟨g0, 0, none⟩))]) (by kernel_rfl) ?_
    obtain ⟨y2, hx3, hr⟩ := bind_some hr
    refine gl_call (by kernel_rfl) (labels_reader_blanks_walk (r := y2) (g0 := g0) (T0 := T0) (a0 := a0) hx3 _) ?_
    rintro v I4 L5 hI6 ⟨rfl, rfl⟩
    refine gl_atE (by kernel_rfl) ?_
    refine ge_seq ?_
    refine gk_seq (by kernel_rfl) ?_
    refine gk_region (by kernel_rfl) ?_
    refine gl_pure 3 [0, 1, 16] (K' := [(0, .pointer (some ⟨g0, 0, none⟩)), (1, .bool a1), (16, .pointer (some ⟨g0, 1, none⟩))]) (by kernel_rfl) ?_
    refine gl_loadB (T' := 3) (xp := (.tmp 16)) (v := .int .i64 y2.f1) (g := g0) (off := 1) (cs := #[.string y2.f0, .int .i64 y2.f1, .int .i64 y2.f2]) (e := T0) (fz := (0, 0)) (by kernel_rfl) (by kernel_rfl) (by kernel_rfl) List.mem_cons_self (by kernel_rfl) ?_
    refine gl_pure 1 [0, 1, 5] (K' := [(0, .pointer (some ⟨g0, 0, none⟩)), (1, .bool a1), (5, .int .i64 y2.f1)]) (by kernel_rfl) ?_
    refine gl_atE (by kernel_rfl) ?_
    refine ge_seq ?_
    refine gk_seq (by kernel_rfl) ?_
    obtain ⟨r11, hl12, hr⟩ := bind_some hr
    refine gk_join (fun t I' L' => I4 ≤ I' ∧ (g0, .cells #[.string y2.f0, .int .i64 r11, .int .i64 y2.f2] T0) :: L = L' ∧ Knows 111 [(0, .pointer (some ⟨g0, 0, none⟩)), (1, .bool a1), (5, .int .i64 y2.f1)] t) ?_ ?_
    · refine gk_block (by kernel_rfl) ?_
      refine gk_pick [0, 1, 5] (K' := [(0, .pointer (some ⟨g0, 0, none⟩)), (1, .bool a1), (5, .int .i64 y2.f1)]) (by kernel_rfl) ?_
      intro t hK
      refine gc_loop (labels_reader_name_l22 a1 y2) (fun s13 t I' L' => I4 ≤ I' ∧ (g0, .cells #[.string y2.f0, .int .i64 s13, .int .i64 y2.f2] T0) :: L = L' ∧ Knows 111 [(0, .pointer (some ⟨g0, 0, none⟩)), (1, .bool a1), (5, .int .i64 y2.f1)] t) (by kernel_rfl) ?_ hl12 ⟨(Imm.refl _), rfl, hK⟩
      rintro s13 o14 t I18 L' hb15 ⟨hI16, rfl, hK17⟩
      unfold labels_reader_name_l22 at hb15
      refine gk_at hK17 ?_
      refine gk_seq (by kernel_rfl) ?_
      refine gk_seq (by kernel_rfl) ?_
      obtain ⟨j24, hj25, hb15⟩ := bind_some hb15
      refine gk_join (fun t I' L' => I18 ≤ I' ∧ (g0, .cells #[.string y2.f0, .int .i64 s13, .int .i64 y2.f2] T0) :: L = L' ∧ Knows 111 [(0, .pointer (some ⟨g0, 0, none⟩)), (1, .bool a1), (5, .int .i64 y2.f1), (66, .bool j24)] t) ?_ ?_
      · refine gk_draw 49 [(0, true), (1, true), (2, true), (3, true), (4, true), (5, true), (6, true), (7, true), (8, true), (9, true), (10, true), (11, true), (12, true), (13, true), (14, true), (15, true), (16, true), (17, true), (18, true), (19, true), (20, true), (21, true), (22, true), (23, true), (24, true), (25, true), (26, true), (27, true), (28, true), (29, true), (30, true), (31, true), (32, true), (33, true), (34, true), (35, true), (36, true), (37, true), (38, true), (39, true), (40, true), (41, true), (42, true), (43, true), (44, true), (45, true), (46, true), (47, true), (48, true)] [(g0, .cells #[.string y2.f0, .int .i64 s13, .int .i64 y2.f2] T0)] (List.forall_mem_cons.2 ⟨List.mem_cons_self, (fun p hp => by cases hp)⟩) (by kernel_rfl) (by kernel_rfl) (by kernel_rfl) ?_ (by kernel_rfl)
        refine gd_pure 3 [0, 1, 5, 20] (K' := [(0, .pointer (some ⟨g0, 0, none⟩)), (1, .bool a1), (5, .int .i64 y2.f1), (20, .pointer (some ⟨g0, 1, none⟩))]) (s' := [(3, true), (4, true), (5, true), (6, true), (7, true), (8, true), (9, true), (10, true), (11, true), (12, true), (13, true), (14, true), (15, true), (16, true), (17, true), (18, true), (19, true), (20, true), (21, true), (22, true), (23, true), (24, true), (25, true), (26, true), (27, true), (28, true), (29, true), (30, true), (31, true), (32, true), (33, true), (34, true), (35, true), (36, true), (37, true), (38, true), (39, true), (40, true), (41, true), (42, true), (43, true), (44, true), (45, true), (46, true), (47, true), (48, true)]) (CC.refl (List.forall_mem_cons.2 ⟨List.mem_cons_self, (fun p hp => by cases hp)⟩)) (by kernel_rfl) ?_
        refine gd_q (v := .int .i64 s13) (by kernel_rfl) (by kernel_rfl) (CC.refl (List.forall_mem_cons.2 ⟨List.mem_cons_self, (fun p hp => by cases hp)⟩)) (fun I' L' T hC kk => gl_loadB (T' := 3) (xp := (.tmp 20)) (v := .int .i64 s13) (g := g0) (off := 1) (cs := #[.string y2.f0, .int .i64 s13, .int .i64 y2.f2]) (e := T0) (fz := (0, 0)) (by kernel_rfl) (by kernel_rfl) (by kernel_rfl) (hC.sub _ List.mem_cons_self) (by kernel_rfl) kk) ?_
        refine gd_pure 3 [0, 1, 5, 21, 24] (K' := [(0, .pointer (some ⟨g0, 0, none⟩)), (1, .bool a1), (5, .int .i64 y2.f1), (21, .int .i64 s13), (24, .pointer (some ⟨g0, 0, none⟩))]) (s' := [(7, true), (8, true), (9, true), (10, true), (11, true), (12, true), (13, true), (14, true), (15, true), (16, true), (17, true), (18, true), (19, true), (20, true), (21, true), (22, true), (23, true), (24, true), (25, true), (26, true), (27, true), (28, true), (29, true), (30, true), (31, true), (32, true), (33, true), (34, true), (35, true), (36, true), (37, true), (38, true), (39, true), (40, true), (41, true), (42, true), (43, true), (44, true), (45, true), (46, true), (47, true), (48, true)]) (CC.refl (List.forall_mem_cons.2 ⟨List.mem_cons_self, (fun p hp => by cases hp)⟩)) (by kernel_rfl) ?_
        refine gd_q (v := .string y2.f0) (by kernel_rfl) (by kernel_rfl) (CC.refl (List.forall_mem_cons.2 ⟨List.mem_cons_self, (fun p hp => by cases hp)⟩)) (fun I' L' T hC kk => gl_loadB (T' := 9) (xp := (.tmp 24)) (v := .string y2.f0) (g := g0) (off := 0) (cs := #[.string y2.f0, .int .i64 s13, .int .i64 y2.f2]) (e := T0) (fz := (0, 0)) (by kernel_rfl) (by kernel_rfl) (by kernel_rfl) (hC.sub _ List.mem_cons_self) (by kernel_rfl) kk) ?_
        refine gd_pure 3 [0, 1, 5, 28] (K' := [(0, .pointer (some ⟨g0, 0, none⟩)), (1, .bool a1), (5, .int .i64 y2.f1), (28, .bool (decide (s13 < (y2.f0.size : Int))))]) (s' := [(11, true), (12, true), (13, true), (14, true), (15, true), (16, true), (17, true), (18, true), (19, true), (20, true), (21, true), (22, true), (23, true), (24, true), (25, true), (26, true), (27, true), (28, true), (29, true), (30, true), (31, true), (32, true), (33, true), (34, true), (35, true), (36, true), (37, true), (38, true), (39, true), (40, true), (41, true), (42, true), (43, true), (44, true), (45, true), (46, true), (47, true), (48, true)]) (CC.refl (List.forall_mem_cons.2 ⟨List.mem_cons_self, (fun p hp => by cases hp)⟩)) (by kernel_rfl) ?_
        refine gd_case 28 (b := (decide (s13 < (y2.f0.size : Int)))) (by kernel_rfl) (fun hc29 => ?_) (fun hc29 => ?_)
        · have hj25 := cond_t hc29 hj25
          refine gd_pure 3 [0, 1, 5, 28, 31] (K' := [(0, .pointer (some ⟨g0, 0, none⟩)), (1, .bool a1), (5, .int .i64 y2.f1), (28, .bool true), (31, .pointer (some ⟨g0, 0, none⟩))]) (s' := [(14, true), (15, true), (16, true), (17, true), (18, true), (19, true), (20, true), (21, true), (22, true), (23, true), (24, true), (25, true), (26, true), (27, true), (28, true), (29, true), (30, true), (31, true), (32, true), (33, true), (34, true), (35, true), (36, true), (37, true), (38, true), (39, true), (40, true), (41, true), (42, true), (43, true), (44, true), (45, true), (46, true), (47, true), (48, true)]) (CC.refl (List.forall_mem_cons.2 ⟨List.mem_cons_self, (fun p hp => by cases hp)⟩)) (by kernel_rfl) ?_
          refine gd_q (v := .string y2.f0) (by kernel_rfl) (by kernel_rfl) (CC.refl (List.forall_mem_cons.2 ⟨List.mem_cons_self, (fun p hp => by cases hp)⟩)) (fun I' L' T hC kk => gl_loadB (T' := 9) (xp := (.tmp 31)) (v := .string y2.f0) (g := g0) (off := 0) (cs := #[.string y2.f0, .int .i64 s13, .int .i64 y2.f2]) (e := T0) (fz := (0, 0)) (by kernel_rfl) (by kernel_rfl) (by kernel_rfl) (hC.sub _ List.mem_cons_self) (by kernel_rfl) kk) ?_
          refine gd_pure 3 [0, 1, 5, 28, 32, 35] (K' := [(0, .pointer (some ⟨g0, 0, none⟩)), (1, .bool a1), (5, .int .i64 y2.f1), (28, .bool true), (32, .string y2.f0), (35, .pointer (some ⟨g0, 1, none⟩))]) (s' := [(18, true), (19, true), (20, true), (21, true), (22, true), (23, true), (24, true), (25, true), (26, true), (27, true), (28, true), (29, true), (30, true), (31, true), (32, true), (33, true), (34, true), (35, true), (36, true), (37, true), (38, true), (39, true), (40, true), (41, true), (42, true), (43, true), (44, true), (45, true), (46, true), (47, true), (48, true)]) (CC.refl (List.forall_mem_cons.2 ⟨List.mem_cons_self, (fun p hp => by cases hp)⟩)) (by kernel_rfl) ?_
          refine gd_q (v := .int .i64 s13) (by kernel_rfl) (by kernel_rfl) (CC.refl (List.forall_mem_cons.2 ⟨List.mem_cons_self, (fun p hp => by cases hp)⟩)) (fun I' L' T hC kk => gl_loadB (T' := 3) (xp := (.tmp 35)) (v := .int .i64 s13) (g := g0) (off := 1) (cs := #[.string y2.f0, .int .i64 s13, .int .i64 y2.f2]) (e := T0) (fz := (0, 0)) (by kernel_rfl) (by kernel_rfl) (by kernel_rfl) (hC.sub _ List.mem_cons_self) (by kernel_rfl) kk) ?_
          obtain ⟨c30, hx31, hj25⟩ := bind_some hj25
          refine gd_q (v := .int .u8 c30) (by kernel_rfl) (by kernel_rfl) (CC.refl (List.forall_mem_cons.2 ⟨List.mem_cons_self, (fun p hp => by cases hp)⟩)) (fun I' L' T hC kk => gl_index' (T' := 9) (xs := (.tmp 32)) (xi := (.tmp 36)) (kd := .i64) hx31 (by kernel_rfl) (by kernel_rfl) (by kernel_rfl) (by kernel_rfl) (by kernel_rfl) kk) ?_
          refine gd_q (v := .bool (labels_letter c30)) (by kernel_rfl) (by kernel_rfl) (CC.refl (List.forall_mem_cons.2 ⟨List.mem_cons_self, (fun p hp => by cases hp)⟩)) (fun I' L' T hC kk => gl_callQ (by kernel_rfl) (labels_letter_walk (r := (labels_letter c30))  rfl _) kk) ?_
          refine gd_pure 1 [0, 1, 5, 28, 39] (K' := [(0, .pointer (some ⟨g0, 0, none⟩)), (1, .bool a1), (5, .int .i64 y2.f1), (28, .bool true), (39, .bool (labels_letter c30))]) (s' := [(22, true), (23, true), (24, true), (25, true), (26, true), (27, true), (28, true), (29, true), (30, true), (31, true), (32, true), (33, true), (34, true), (35, true), (36, true), (37, true), (38, true), (39, true), (40, true), (41, true), (42, true), (43, true), (44, true), (45, true), (46, true), (47, true), (48, true)]) (CC.refl (List.forall_mem_cons.2 ⟨List.mem_cons_self, (fun p hp => by cases hp)⟩)) (by kernel_rfl) ?_
          refine gd_case 39 (b := (labels_letter c30)) (by kernel_rfl) (fun hc32 => ?_) (fun hc32 => ?_)
          · have hj25 := cond_t hc32 hj25
            refine gd_pure 27 [0, 1, 5, 66] (K' := [(0, .pointer (some ⟨g0, 0, none⟩)), (1, .bool a1), (5, .int .i64 y2.f1), (66, .bool true)]) (s' := []) (CC.refl (List.forall_mem_cons.2 ⟨List.mem_cons_self, (fun p hp => by cases hp)⟩)) (by kernel_rfl) ?_
            refine gd_done ?_
            refine gl_atE (by kernel_rfl) ?_
            obtain rfl := some_inj hj25
            exact ge_mid fun t ht => ⟨(Imm.refl _), rfl, ht.pick (l := [0, 1, 5, 66]) (by kernel_rfl)⟩
          · have hj25 := cond_f hc32 hj25
            refine gd_pure 3 [0, 1, 5, 28, 39, 42] (K' := [(0, .pointer (some ⟨g0, 0, none⟩)), (1, .bool a1), (5, .int .i64 y2.f1), (28, .bool true), (39, .bool false), (42, .pointer (some ⟨g0, 0, none⟩))]) (s' := [(25, true), (26, true), (27, true), (28, true), (29, true), (30, true), (31, true), (32, true), (33, true), (34, true), (35, true), (36, true), (37, true), (38, true), (39, true), (40, true), (41, true), (42, true), (43, true), (44, true), (45, true), (46, true), (47, true), (48, true)]) (CC.refl (List.forall_mem_cons.2 ⟨List.mem_cons_self, (fun p hp => by cases hp)⟩)) (by kernel_rfl) ?_
            refine gd_q (v := .string y2.f0) (by kernel_rfl) (by kernel_rfl) (CC.refl (List.forall_mem_cons.2 ⟨List.mem_cons_self, (fun p hp => by cases hp)⟩)) (fun I' L' T hC kk => gl_loadB (T' := 9) (xp := (.tmp 42)) (v := .string y2.f0) (g := g0) (off := 0) (cs := #[.string y2.f0, .int .i64 s13, .int .i64 y2.f2]) (e := T0) (fz := (0, 0)) (by kernel_rfl) (by kernel_rfl) (by kernel_rfl) (hC.sub _ List.mem_cons_self) (by kernel_rfl) kk) ?_
            refine gd_pure 3 [0, 1, 5, 28, 39, 43, 46] (K' := [(0, .pointer (some ⟨g0, 0, none⟩)), (1, .bool a1), (5, .int .i64 y2.f1), (28, .bool true), (39, .bool false), (43, .string y2.f0), (46, .pointer (some ⟨g0, 1, none⟩))]) (s' := [(29, true), (30, true), (31, true), (32, true), (33, true), (34, true), (35, true), (36, true), (37, true), (38, true), (39, true), (40, true), (41, true), (42, true), (43, true), (44, true), (45, true), (46, true), (47, true), (48, true)]) (CC.refl (List.forall_mem_cons.2 ⟨List.mem_cons_self, (fun p hp => by cases hp)⟩)) (by kernel_rfl) ?_
            refine gd_q (v := .int .i64 s13) (by kernel_rfl) (by kernel_rfl) (CC.refl (List.forall_mem_cons.2 ⟨List.mem_cons_self, (fun p hp => by cases hp)⟩)) (fun I' L' T hC kk => gl_loadB (T' := 3) (xp := (.tmp 46)) (v := .int .i64 s13) (g := g0) (off := 1) (cs := #[.string y2.f0, .int .i64 s13, .int .i64 y2.f2]) (e := T0) (fz := (0, 0)) (by kernel_rfl) (by kernel_rfl) (by kernel_rfl) (hC.sub _ List.mem_cons_self) (by kernel_rfl) kk) ?_
            obtain ⟨c33, hx34, hj25⟩ := bind_some hj25
            refine gd_q (v := .int .u8 c33) (by kernel_rfl) (by kernel_rfl) (CC.refl (List.forall_mem_cons.2 ⟨List.mem_cons_self, (fun p hp => by cases hp)⟩)) (fun I' L' T hC kk => gl_index' (T' := 9) (xs := (.tmp 43)) (xi := (.tmp 47)) (kd := .i64) hx34 (by kernel_rfl) (by kernel_rfl) (by kernel_rfl) (by kernel_rfl) (by kernel_rfl) kk) ?_
            refine gd_q (v := .bool (labels_digit c33)) (by kernel_rfl) (by kernel_rfl) (CC.refl (List.forall_mem_cons.2 ⟨List.mem_cons_self, (fun p hp => by cases hp)⟩)) (fun I' L' T hC kk => gl_callQ (by kernel_rfl) (labels_digit_walk (r := (labels_digit c33))  rfl _) kk) ?_
            refine gd_pure 2 [0, 1, 5, 28, 51] (K' := [(0, .pointer (some ⟨g0, 0, none⟩)), (1, .bool a1), (5, .int .i64 y2.f1), (28, .bool true), (51, .bool (labels_digit c33))]) (s' := [(34, true), (35, true), (36, true), (37, true), (38, true), (39, true), (40, true), (41, true), (42, true), (43, true), (44, true), (45, true), (46, true), (47, true), (48, true)]) (CC.refl (List.forall_mem_cons.2 ⟨List.mem_cons_self, (fun p hp => by cases hp)⟩)) (by kernel_rfl) ?_
            refine gd_case 51 (b := (labels_digit c33)) (by kernel_rfl) (fun hc35 => ?_) (fun hc35 => ?_)
            · have hj25 := cond_t hc35 hj25
              refine gd_pure 15 [0, 1, 5, 66] (K' := [(0, .pointer (some ⟨g0, 0, none⟩)), (1, .bool a1), (5, .int .i64 y2.f1), (66, .bool true)]) (s' := []) (CC.refl (List.forall_mem_cons.2 ⟨List.mem_cons_self, (fun p hp => by cases hp)⟩)) (by kernel_rfl) ?_
              refine gd_done ?_
              refine gl_atE (by kernel_rfl) ?_
              obtain rfl := some_inj hj25
              exact ge_mid fun t ht => ⟨(Imm.refl _), rfl, ht.pick (l := [0, 1, 5, 66]) (by kernel_rfl)⟩
            · have hj25 := cond_f hc35 hj25
              refine gd_pure 2 [0, 1, 5, 28, 51, 53] (K' := [(0, .pointer (some ⟨g0, 0, none⟩)), (1, .bool a1), (5, .int .i64 y2.f1), (28, .bool true), (51, .bool false), (53, .bool a1)]) (s' := [(36, true), (37, true), (38, true), (39, true), (40, true), (41, true), (42, true), (43, true), (44, true), (45, true), (46, true), (47, true), (48, true)]) (CC.refl (List.forall_mem_cons.2 ⟨List.mem_cons_self, (fun p hp => by cases hp)⟩)) (by kernel_rfl) ?_
              refine gd_case 53 (b := a1) (by kernel_rfl) (fun hc36 => ?_) (fun hc36 => ?_)
              · have hj25 := cond_t hc36 hj25
                refine gd_pure 3 [0, 1, 5, 28, 51, 53, 56] (K' := [(0, .pointer (some ⟨g0, 0, none⟩)), (1, .bool a1), (5, .int .i64 y2.f1), (28, .bool true), (51, .bool false), (53, .bool true), (56, .pointer (some ⟨g0, 0, none⟩))]) (s' := [(39, true), (40, true), (41, true), (42, true), (43, true), (44, true), (45, true), (46, true), (47, true), (48, true)]) (CC.refl (List.forall_mem_cons.2 ⟨List.mem_cons_self, (fun p hp => by cases hp)⟩)) (by kernel_rfl) ?_
                refine gd_q (v := .string y2.f0) (by kernel_rfl) (by kernel_rfl) (CC.refl (List.forall_mem_cons.2 ⟨List.mem_cons_self, (fun p hp => by cases hp)⟩)) (fun I' L' T hC kk => gl_loadB (T' := 9) (xp := (.tmp 56)) (v := .string y2.f0) (g := g0) (off := 0) (cs := #[.string y2.f0, .int .i64 s13, .int .i64 y2.f2]) (e := T0) (fz := (0, 0)) (by kernel_rfl) (by kernel_rfl) (by kernel_rfl) (hC.sub _ List.mem_cons_self) (by kernel_rfl) kk) ?_
                refine gd_pure 3 [0, 1, 5, 28, 51, 53, 57, 60] (K' := [(0, .pointer (some ⟨g0, 0, none⟩)), (1, .bool a1), (5, .int .i64 y2.f1), (28, .bool true), (51, .bool false), (53, .bool true), (57, .string y2.f0), (60, .pointer (some ⟨g0, 1, none⟩))]) (s' := [(43, true), (44, true), (45, true), (46, true), (47, true), (48, true)]) (CC.refl (List.forall_mem_cons.2 ⟨List.mem_cons_self, (fun p hp => by cases hp)⟩)) (by kernel_rfl) ?_
                refine gd_q (v := .int .i64 s13) (by kernel_rfl) (by kernel_rfl) (CC.refl (List.forall_mem_cons.2 ⟨List.mem_cons_self, (fun p hp => by cases hp)⟩)) (fun I' L' T hC kk => gl_loadB (T' := 3) (xp := (.tmp 60)) (v := .int .i64 s13) (g := g0) (off := 1) (cs := #[.string y2.f0, .int .i64 s13, .int .i64 y2.f2]) (e := T0) (fz := (0, 0)) (by kernel_rfl) (by kernel_rfl) (by kernel_rfl) (hC.sub _ List.mem_cons_self) (by kernel_rfl) kk) ?_
                obtain ⟨c37, hx38, hj25⟩ := bind_some hj25
                refine gd_q (v := .int .u8 c37) (by kernel_rfl) (by kernel_rfl) (CC.refl (List.forall_mem_cons.2 ⟨List.mem_cons_self, (fun p hp => by cases hp)⟩)) (fun I' L' T hC kk => gl_index' (T' := 9) (xs := (.tmp 57)) (xi := (.tmp 61)) (kd := .i64) hx38 (by kernel_rfl) (by kernel_rfl) (by kernel_rfl) (by kernel_rfl) (by kernel_rfl) kk) ?_
                refine gd_pure 4 [0, 1, 5, 66] (K' := [(0, .pointer (some ⟨g0, 0, none⟩)), (1, .bool a1), (5, .int .i64 y2.f1), (66, .bool (c37 == 58))]) (s' := []) (CC.refl (List.forall_mem_cons.2 ⟨List.mem_cons_self, (fun p hp => by cases hp)⟩)) (by kernel_rfl) ?_
                refine gd_done ?_
                refine gl_atE (by kernel_rfl) ?_
                obtain rfl := some_inj hj25
                exact ge_mid fun t ht => ⟨(Imm.refl _), rfl, ht.pick (l := [0, 1, 5, 66]) (by kernel_rfl)⟩
              · have hj25 := cond_f hc36 hj25
                refine gd_pure 13 [0, 1, 5, 66] (K' := [(0, .pointer (some ⟨g0, 0, none⟩)), (1, .bool a1), (5, .int .i64 y2.f1), (66, .bool false)]) (s' := []) (CC.refl (List.forall_mem_cons.2 ⟨List.mem_cons_self, (fun p hp => by cases hp)⟩)) (by kernel_rfl) ?_
                refine gd_done ?_
                refine gl_atE (by kernel_rfl) ?_
                obtain rfl := some_inj hj25
                exact ge_mid fun t ht => ⟨(Imm.refl _), rfl, ht.pick (l := [0, 1, 5, 66]) (by kernel_rfl)⟩
        · have hj25 := cond_f hc29 hj25
          refine gd_pure 38 [0, 1, 5, 66] (K' := [(0, .pointer (some ⟨g0, 0, none⟩)), (1, .bool a1), (5, .int .i64 y2.f1), (66, .bool false)]) (s' := []) (CC.refl (List.forall_mem_cons.2 ⟨List.mem_cons_self, (fun p hp => by cases hp)⟩)) (by kernel_rfl) ?_
          refine gd_done ?_
          refine gl_atE (by kernel_rfl) ?_
          obtain rfl := some_inj hj25
          exact ge_mid fun t ht => ⟨(Imm.refl _), rfl, ht.pick (l := [0, 1, 5, 66]) (by kernel_rfl)⟩
      · rintro t I28 L' ⟨hI26, rfl, hK27⟩
        refine ge_at hK27 ?_
        refine ge_seq ?_
        refine gk_cond (b := j24) (by kernel_rfl) (by kernel_rfl) (fun hc39 => ?_) (fun hc39 => ?_)
        · have hb15 := cond_t hc39 hb15
          refine gk_skip (by kernel_rfl) ?_
          refine ge_seq ?_
          refine gk_block (by kernel_rfl) ?_
          refine gk_region (by kernel_rfl) ?_
          refine gl_pure 3 [0, 1, 5, 67, 69] (K' := [(0, .pointer (some ⟨g0, 0, none⟩)), (1, .bool a1), (5, .int .i64 y2.f1), (67, .pointer (some ⟨g0, 0, none⟩)), (69, .pointer (some ⟨g0, 1, none⟩))]) (by kernel_rfl) ?_
          refine gl_loadB (T' := 3) (xp := (.tmp 69)) (v := .int .i64 s13) (g := g0) (off := 1) (cs := #[.string y2.f0, .int .i64 s13, .int .i64 y2.f2]) (e := T0) (fz := (0, 0)) (by kernel_rfl) (by kernel_rfl) (by kernel_rfl) List.mem_cons_self (by kernel_rfl) ?_
          refine gl_pure 3 [0, 1, 5, 71, 73] (K' := [(0, .pointer (some ⟨g0, 0, none⟩)), (1, .bool a1), (5, .int .i64 y2.f1), (71, .int .i64 (IntKind.wrap .i64 (s13 + 1))), (73, .pointer (some ⟨g0, 1, none⟩))]) (by kernel_rfl) ?_
          refine gl_storeB (T' := 3) (xp := (.tmp 73)) (xv := (.tmp 71)) (v := .int .i64 (IntKind.wrap .i64 (s13 + 1))) (g := g0) (off := 1) (cs := #[.string y2.f0, .int .i64 s13, .int .i64 y2.f2]) (cs' := #[.string y2.f0, .int .i64 (IntKind.wrap .i64 (s13 + 1)), .int .i64 y2.f2]) (by kernel_rfl) (by kernel_rfl) (by kernel_rfl) (by kernel_rfl) (by kernel_rfl) (Upd.set _ _ _ _) ?_ (by kernel_rfl)
          refine gl_atE (by kernel_rfl) ?_
          refine ge_block_normal ?_
          obtain rfl := some_inj hb15
          exact ge_round fun t ht => ⟨(Imm.trans hI16 hI26), rfl, ht.pick (l := [0, 1, 5]) (by kernel_rfl)⟩
        · have hb15 := cond_f hc39 hb15
          refine gk_exit (by kernel_rfl) ?_
          refine ge_seq_exit ?_
          obtain rfl := some_inj hb15
          refine ge_round_out (fun hrr => ?_) (by intro h; cases h)
          obtain rfl := hrr
          refine ge_block_hit (by kernel_rfl) ?_
          exact ge_mid fun t ht => ⟨(Imm.trans hI16 hI26), rfl, ht.pick (l := [0, 1, 5]) (by kernel_rfl)⟩
    · rintro t I21 L' ⟨hI19, rfl, hK20⟩
      refine ge_at hK20 ?_
      refine ge_seq ?_
      refine gk_seq (by kernel_rfl) ?_
      refine gk_draw 11 [(0, true), (1, true), (2, true), (3, true), (4, true), (5, true), (6, true), (7, true), (8, true), (9, true), (10, true)] [(g0, .cells #[.string y2.f0, .int .i64 r11, .int .i64 y2.f2] T0)] (List.forall_mem_cons.2 ⟨List.mem_cons_self, (fun p hp => by cases hp)⟩) (by kernel_rfl) (by kernel_rfl) (by kernel_rfl) ?_ (by kernel_rfl)
      refine gd_pure 3 [0, 1, 5, 76] (K' := [(0, .pointer (some ⟨g0, 0, none⟩)), (1, .bool a1), (5, .int .i64 y2.f1), (76, .pointer (some ⟨g0, 0, none⟩))]) (s' := [(3, true), (4, true), (5, true), (6, true), (7, true), (8, true), (9, true), (10, true)]) (CC.refl (List.forall_mem_cons.2 ⟨List.mem_cons_self, (fun p hp => by cases hp)⟩)) (by kernel_rfl) ?_
      refine gd_q (v := .string y2.f0) (by kernel_rfl) (by kernel_rfl) (CC.refl (List.forall_mem_cons.2 ⟨List.mem_cons_self, (fun p hp => by cases hp)⟩)) (fun I' L' T hC kk => gl_loadB (T' := 9) (xp := (.tmp 76)) (v := .string y2.f0) (g := g0) (off := 0) (cs := #[.string y2.f0, .int .i64 r11, .int .i64 y2.f2]) (e := T0) (fz := (0, 0)) (by kernel_rfl) (by kernel_rfl) (by kernel_rfl) (hC.sub _ List.mem_cons_self) (by kernel_rfl) kk) ?_
      refine gd_pure 4 [0, 1, 5, 77, 78, 81] (K' := [(0, .pointer (some ⟨g0, 0, none⟩)), (1, .bool a1), (5, .int .i64 y2.f1), (77, .string y2.f0), (78, .int .i64 y2.f1), (81, .pointer (some ⟨g0, 1, none⟩))]) (s' := [(8, true), (9, true), (10, true)]) (CC.refl (List.forall_mem_cons.2 ⟨List.mem_cons_self, (fun p hp => by cases hp)⟩)) (by kernel_rfl) ?_
      refine gd_q (v := .int .i64 r11) (by kernel_rfl) (by kernel_rfl) (CC.refl (List.forall_mem_cons.2 ⟨List.mem_cons_self, (fun p hp => by cases hp)⟩)) (fun I' L' T hC kk => gl_loadB (T' := 3) (xp := (.tmp 81)) (v := .int .i64 r11) (g := g0) (off := 1) (cs := #[.string y2.f0, .int .i64 r11, .int .i64 y2.f2]) (e := T0) (fz := (0, 0)) (by kernel_rfl) (by kernel_rfl) (by kernel_rfl) (hC.sub _ List.mem_cons_self) (by kernel_rfl) kk) ?_
      obtain ⟨s41, hx40, hr⟩ := bind_some hr
      refine gd_q (v := .string s41) (by kernel_rfl) (by kernel_rfl) (CC.refl (List.forall_mem_cons.2 ⟨List.mem_cons_self, (fun p hp => by cases hp)⟩)) (fun I' L' T hC kk => gl_slice' (T' := 9) (xs := (.tmp 77)) (lo := (some (.tmp 78))) (hi := (some (.tmp 82))) hx40 (by kernel_rfl) (by kernel_rfl) (by kernel_rfl) (by kernel_rfl) (by kernel_rfl) (by kernel_rfl) kk) ?_
      refine gd_pure 1 [0, 1, 5, 6] (K' := [(0, .pointer (some ⟨g0, 0, none⟩)), (1, .bool a1), (5, .int .i64 y2.f1), (6, .string s41)]) (s' := []) (CC.refl (List.forall_mem_cons.2 ⟨List.mem_cons_self, (fun p hp => by cases hp)⟩)) (by kernel_rfl) ?_
      refine gd_done ?_
      refine gl_atE (by kernel_rfl) ?_
      refine ge_seq ?_
      refine gk_seq (by kernel_rfl) ?_
      refine gk_seq (by kernel_rfl) ?_
      obtain ⟨j42, hj43, hr⟩ := bind_some hr
      refine gk_join (fun t I' L' => I21 ≤ I' ∧ (g0, .cells #[.string y2.f0, .int .i64 r11, .int .i64 y2.f2] T0) :: L = L' ∧ Knows 111 [(0, .pointer (some ⟨g0, 0, none⟩)), (5, .int .i64 y2.f1), (6, .string s41), (98, .bool j42)] t) ?_ ?_
      · refine gk_region (by kernel_rfl) ?_
        refine gl_pure 2 [0, 1, 5, 6, 85] (K' := [(0, .pointer (some ⟨g0, 0, none⟩)), (1, .bool a1), (5, .int .i64 y2.f1), (6, .string s41), (85, .bool a1)]) (by kernel_rfl) ?_
        refine gl_case 85 (b := a1) (by kernel_rfl) (fun hc47 => ?_) (fun hc47 => ?_)
        · have hj43 := cond_t hc47 hj43
          refine gl_pure 1 [0, 1, 5, 6, 85, 86] (K' := [(0, .pointer (some ⟨g0, 0, none⟩)), (1, .bool a1), (5, .int .i64 y2.f1), (6, .string s41), (85, .bool true), (86, .string s41)]) (by kernel_rfl) ?_
          obtain ⟨y48, hx49, hj43⟩ := bind_some hj43
          refine gl_callQ (by kernel_rfl) (labels_Metric_walk (r := y48)  hx49 _) ?_
          refine gl_pure 3 [0, 1, 5, 6, 90] (K' := [(0, .pointer (some ⟨g0, 0, none⟩)), (1, .bool a1), (5, .int .i64 y2.f1), (6, .string s41), (90, .bool (!y48))]) (by kernel_rfl) ?_
          refine gl_case 90 (b := (!y48)) (by kernel_rfl) (fun hc50 => ?_) (fun hc50 => ?_)
          · have hj43 := cond_t hc50 hj43
            refine gl_pure 8 [0, 5, 6, 98] (K' := [(0, .pointer (some ⟨g0, 0, none⟩)), (5, .int .i64 y2.f1), (6, .string s41), (98, .bool true)]) (by kernel_rfl) ?_
            refine gl_atE (by kernel_rfl) ?_
            obtain rfl := some_inj hj43
            exact ge_mid fun t ht => ⟨(Imm.refl _), rfl, ht.pick (l := [0, 5, 6, 98]) (by kernel_rfl)⟩
          · have hj43 := cond_f hc50 hj43
            refine gl_pure 3 [0, 5, 6, 90, 93] (K' := [(0, .pointer (some ⟨g0, 0, none⟩)), (5, .int .i64 y2.f1), (6, .string s41), (90, .bool false), (93, .bool (!a1))]) (by kernel_rfl) ?_
            refine gl_case 93 (b := (!a1)) (by kernel_rfl) (fun hc51 => ?_) (fun hc51 => ?_)
            · have hj43 := cond_t hc51 hj43
              refine gl_pure 1 [0, 5, 6, 90, 93, 94] (K' := [(0, .pointer (some ⟨g0, 0, none⟩)), (5, .int .i64 y2.f1), (6, .string s41), (90, .bool false), (93, .bool true), (94, .string s41)]) (by kernel_rfl) ?_
              obtain ⟨y52, hx53, hj43⟩ := bind_some hj43
              refine gl_callQ (by kernel_rfl) (labels_Name_walk (r := y52)  hx53 _) ?_
              refine gl_pure 3 [0, 5, 6, 98] (K' := [(0, .pointer (some ⟨g0, 0, none⟩)), (5, .int .i64 y2.f1), (6, .string s41), (98, .bool (!y52))]) (by kernel_rfl) ?_
              refine gl_atE (by kernel_rfl) ?_
              obtain rfl := some_inj hj43
              exact ge_mid fun t ht => ⟨(Imm.refl _), rfl, ht.pick (l := [0, 5, 6, 98]) (by kernel_rfl)⟩
            · have hj43 := cond_f hc51 hj43
              refine gl_pure 5 [0, 5, 6, 98] (K' := [(0, .pointer (some ⟨g0, 0, none⟩)), (5, .int .i64 y2.f1), (6, .string s41), (98, .bool false)]) (by kernel_rfl) ?_
              refine gl_atE (by kernel_rfl) ?_
              obtain rfl := some_inj hj43
              exact ge_mid fun t ht => ⟨(Imm.refl _), rfl, ht.pick (l := [0, 5, 6, 98]) (by kernel_rfl)⟩
        · have hj43 := cond_f hc47 hj43
          refine gl_pure 8 [0, 5, 6, 90, 93] (K' := [(0, .pointer (some ⟨g0, 0, none⟩)), (5, .int .i64 y2.f1), (6, .string s41), (90, .bool false), (93, .bool (!a1))]) (by kernel_rfl) ?_
          refine gl_case 93 (b := (!a1)) (by kernel_rfl) (fun hc54 => ?_) (fun hc54 => ?_)
          · have hj43 := cond_t hc54 hj43
            refine gl_pure 1 [0, 5, 6, 90, 93, 94] (K' := [(0, .pointer (some ⟨g0, 0, none⟩)), (5, .int .i64 y2.f1), (6, .string s41), (90, .bool false), (93, .bool true), (94, .string s41)]) (by kernel_rfl) ?_
            obtain ⟨y55, hx56, hj43⟩ := bind_some hj43
            refine gl_callQ (by kernel_rfl) (labels_Name_walk (r := y55)  hx56 _) ?_
            refine gl_pure 3 [0, 5, 6, 98] (K' := [(0, .pointer (some ⟨g0, 0, none⟩)), (5, .int .i64 y2.f1), (6, .string s41), (98, .bool (!y55))]) (by kernel_rfl) ?_
            refine gl_atE (by kernel_rfl) ?_
            obtain rfl := some_inj hj43
            exact ge_mid fun t ht => ⟨(Imm.refl _), rfl, ht.pick (l := [0, 5, 6, 98]) (by kernel_rfl)⟩
          · have hj43 := cond_f hc54 hj43
            refine gl_pure 5 [0, 5, 6, 98] (K' := [(0, .pointer (some ⟨g0, 0, none⟩)), (5, .int .i64 y2.f1), (6, .string s41), (98, .bool false)]) (by kernel_rfl) ?_
            refine gl_atE (by kernel_rfl) ?_
            obtain rfl := some_inj hj43
            exact ge_mid fun t ht => ⟨(Imm.refl _), rfl, ht.pick (l := [0, 5, 6, 98]) (by kernel_rfl)⟩
      · rintro t I46 L' ⟨hI44, rfl, hK45⟩
        refine ge_at hK45 ?_
        refine ge_seq ?_
        obtain ⟨j57, hj58, hr⟩ := bind_some hr
        refine gk_join (fun t I' L' => I46 ≤ I' ∧ (g0, .cells #[.string j57.1, .int .i64 j57.2.1, .int .i64 j57.2.2] T0) :: L = L' ∧ Knows 111 [(6, .string s41)] t) ?_ ?_
        · refine gk_cond (b := j42) (by kernel_rfl) (by kernel_rfl) (fun hc62 => ?_) (fun hc62 => ?_)
          · have hj58 := cond_t hc62 hj58
            refine gk_seq (by kernel_rfl) ?_
            refine gk_seq (by kernel_rfl) ?_
            refine gk_region (by kernel_rfl) ?_
            refine gl_pure 2 [0, 5, 6, 100] (K' := [(0, .pointer (some ⟨g0, 0, none⟩)), (5, .int .i64 y2.f1), (6, .string s41), (100, .bool (s41.toList == (⟨#[]⟩ : ByteArray).toList))]) (by kernel_rfl) ?_
            refine gl_atE (by kernel_rfl) ?_
            refine ge_seq ?_
            obtain ⟨j63, hj64, hj58⟩ := bind_some hj58
            refine gk_join (fun t I' L' => I46 ≤ I' ∧ (g0, .cells #[.string j63.1, .int .i64 j63.2.1, .int .i64 j63.2.2] T0) :: L = L' ∧ Knows 111 [(0, .pointer (some ⟨g0, 0, none⟩)), (5, .int .i64 y2.f1), (6, .string s41)] t) ?_ ?_
            · refine gk_cond (b := (s41.toList == (⟨#[]⟩ : ByteArray).toList)) (by kernel_rfl) (by kernel_rfl) (fun hc68 => ?_) (fun hc68 => ?_)
              · have hj64 := cond_t hc68 hj64
                refine gk_region (by kernel_rfl) ?_
                refine gl_pure 4 [0, 5, 6, 101, 104] (K' := [(0, .pointer (some ⟨g0, 0, none⟩)), (5, .int .i64 y2.f1), (6, .string s41), (101, .pointer (some ⟨g0, 0, none⟩)), (104, .pointer (some ⟨g0, 1, none⟩))]) (by kernel_rfl) ?_
                refine gl_loadB (T' := 3) (xp := (.tmp 104)) (v := .int .i64 r11) (g := g0) (off := 1) (cs := #[.string y2.f0, .int .i64 r11, .int .i64 y2.f2]) (e := T0) (fz := (0, 0)) (by kernel_rfl) (by kernel_rfl) (by kernel_rfl) List.mem_cons_self (by kernel_rfl) ?_
                obtain ⟨y69, hx70, hj64⟩ := bind_some hj64
                refine gl_call (by kernel_rfl) (labels_reader_fail_walk (r := y69) (g0 := g0) (T0 := T0) (a0 := (⟨y2.f0, r11, y2.f2⟩ : S89)) hx70 _) ?_
                rintro v I71 L72 hI73 ⟨rfl, rfl⟩
                refine gl_atE (by kernel_rfl) ?_
                obtain rfl := some_inj hj64
                exact ge_mid fun t ht => ⟨hI73, rfl, ht.pick (l := [0, 5, 6]) (by kernel_rfl)⟩
              · have hj64 := cond_f hc68 hj64
                refine gk_skip (by kernel_rfl) ?_
                obtain rfl := some_inj hj64
                exact ge_mid fun t ht => ⟨(Imm.refl _), rfl, ht.pick (l := [0, 5, 6]) (by kernel_rfl)⟩
            · rintro t I67 L' ⟨hI65, rfl, hK66⟩
              refine ge_at hK66 ?_
              refine ge_seq ?_
              refine gk_region (by kernel_rfl) ?_
              refine gl_pure 2 [6, 107, 108] (K' := [(6, .string s41), (107, .pointer (some ⟨g0, 0, none⟩)), (108, .int .i64 y2.f1)]) (by kernel_rfl) ?_
              obtain ⟨y74, hx75, hj58⟩ := bind_some hj58
              refine gl_call (by kernel_rfl) (labels_reader_fail_walk (r := y74) (g0 := g0) (T0 := T0) (a0 := (⟨j63.1, j63.2.1, j63.2.2⟩ : S89)) hx75 _) ?_
              rintro v I76 L77 hI78 ⟨rfl, rfl⟩
              refine gl_atE (by kernel_rfl) ?_
              obtain rfl := some_inj hj58
              exact ge_mid fun t ht => ⟨(Imm.trans hI65 hI78), rfl, ht.pick (l := [6]) (by kernel_rfl)⟩
          · have hj58 := cond_f hc62 hj58
            refine gk_skip (by kernel_rfl) ?_
            obtain rfl := some_inj hj58
            exact ge_mid fun t ht => ⟨(Imm.refl _), rfl, ht.pick (l := [6]) (by kernel_rfl)⟩
        · rintro t I61 L' ⟨hI59, rfl, hK60⟩
          refine ge_at hK60 ?_
          refine ge_seq ?_
          refine gk_seq (by kernel_rfl) ?_
          refine gk_region (by kernel_rfl) ?_
          refine gl_pure 2 [4] (K' := [(4, .string s41)]) (by kernel_rfl) ?_
          refine gl_atE (by kernel_rfl) ?_
          refine ge_seq ?_
          refine gk_ret (by kernel_rfl) ?_
          obtain rfl := some_inj hr
          exact ge_result trivial (ResOk.tmp (by kernel_rfl) ResOk.nil) (Imm.trans (Imm.trans (Imm.trans hI6 hI19) hI44) hI59) ⟨rfl, rfl⟩
/-! 69 labels_reader_next ('obj', 'imm') -/
noncomputable def labels_reader_next (a0 : S89) (a1 : Int) : Option (Bool × S89) :=
  bif (decide (a0.f2 ≥ 0)) then
  (some (false, a0))
  else
  (Option.bind (labels_reader_blanks a0) fun (y2 : S89) =>
    Option.bind (bif (decide (y2.f1 ≥ (y2.f0.size : Int))) then
      (some true)
      else
      (Option.bind (bx y2.f0 y2.f1) fun (c13 : Int) =>
        some (c13 != a1))) fun (j7 : Bool) =>
    bif j7 then
    (some (false, y2))
    else
    (some (true, (⟨y2.f0, (IntKind.wrap .i64 (y2.f1 + 1)), y2.f2⟩ : S89))))
theorem labels_reader_next_walk {a0 : S89} {g0 : Nat} {T0 : TypeId} {a1 : Int} {I : Imm} {r : Bool × S89}  (hr : labels_reader_next a0 a1 = some r) (L : Own) :
    CallsTo Tryz.prog 69 #[.pointer (some ⟨g0, 0, none⟩), .int .u8 a1] I ((g0, .cells #[.string a0.f0, .int .i64 a0.f1, .int .i64 a0.f2] T0) :: L) (fun v I' L' => v = .bool r.1 ∧ (g0, .cells #[.string r.2.f0, .int .i64 r.2.f1, .int .i64 r.2.f2] T0) :: L = L') := by
  unfold labels_reader_next at hr
  refine callsTo_body (N := 42) Tryz.func69 (by kernel_rfl) (by kernel_rfl) (by kernel_rfl) ?_
  refine gk_pick [0, 1] (K' := [(0, .pointer (some ⟨g0, 0, none⟩)), (1, .int .u8 a1)]) (by kernel_rfl) ?_
  refine gk_seq (by kernel_rfl) ?_
  refine gk_region (by kernel_rfl) ?_
  refine gl_pure 1 [0, 1] (K' := [(0, .pointer (some ⟨g0, 0, none⟩)), (1, .int .u8 a1)]) (by kernel_rfl) ?_
  refine gl_atE (by kernel_rfl) ?_
  refine ge_seq ?_
  refine gk_seq (by kernel_rfl) ?_
  refine gk_seq (by kernel_rfl) ?_
  refine gk_region (by kernel_rfl) ?_
  refine gl_pure 3 [0, 1, 7] (K' := [(0, .pointer (some ⟨g0, 0, none⟩)), (1, .int .u8 a1), (7, .pointer (some ⟨g0, 2, none⟩))]) (by kernel_rfl) ?_
  refine gl_loadB (T' := 3) (xp := (.tmp 7)) (v := .int .i64 a0.f2) (g := g0) (off := 2) (cs := #[.string a0.f0, .int .i64 a0.f1, .int .i64 a0.f2]) (e := T0) (fz := (0, 0)) (by kernel_rfl) (by kernel_rfl) (by kernel_rfl) List.mem_cons_self (by kernel_rfl) ?_
  refine gl_pure 1 [0, 1, 9] (K' := [(0, .pointer (some ⟨g0, 0, none⟩)), (1, .int .u8 a1), (9, .bool (decide (a0.f2 ≥ 0)))]) (by kernel_rfl) ?_
  refine gl_atE (by kernel_rfl) ?_
  refine ge_seq ?_
  refine gk_cond (b := (decide (a0.f2 ≥ 0))) (by kernel_rfl) (by kernel_rfl) (fun hc1 => ?_) (fun hc1 => ?_)
  · have hr := cond_t hc1 hr
    refine gk_seq (by kernel_rfl) ?_
    refine gk_region (by kernel_rfl) ?_
    refine gl_pure 1 [4] (K' := [(4, .bool false)]) (by kernel_rfl) ?_
    refine gl_atE (by kernel_rfl) ?_
    refine ge_seq ?_
    refine gk_ret (by kernel_rfl) ?_
    refine ge_seq_ret ?_
    obtain rfl := some_inj hr
    exact ge_result trivial (ResOk.tmp (by kernel_rfl) ResOk.nil) (Imm.refl _) ⟨rfl, rfl⟩
  · have hr := cond_f hc1 hr
    refine gk_skip (by kernel_rfl) ?_
    refine ge_seq ?_
    refine gk_seq (by kernel_rfl) ?_
    refine gk_region (by kernel_rfl) ?_
    refine gl_pure 1 [0, 1, 10] (K' := [(0, .pointer (some ⟨g0, 0, none⟩)), (1, .int .u8 a1), (10, .pointer (some ⟨g0, 0, none⟩))]) (by kernel_rfl) ?_
    obtain ⟨y2, hx3, hr⟩ := bind_some hr
    refine gl_call (by kernel_rfl) (labels_reader_blanks_walk (r := y2) (g0 := g0) (T0 := T0) (a0 := a0) hx3 _) ?_
    rintro v I4 L5 hI6 ⟨rfl, rfl⟩
    refine gl_atE (by kernel_rfl) ?_
    refine ge_seq ?_
    refine gk_seq (by kernel_rfl) ?_
    refine gk_seq (by kernel_rfl) ?_
    obtain ⟨j7, hj8, hr⟩ := bind_some hr
    refine gk_join (fun t I' L' => I4 ≤ I' ∧ (g0, .cells #[.string y2.f0, .int .i64 y2.f1, .int .i64 y2.f2] T0) :: L = L' ∧ Knows 42 [(0, .pointer (some ⟨g0, 0, none⟩)), (34, .bool j7)] t) ?_ ?_
    · refine gk_draw 23 [(0, true), (1, true), (2, true), (3, true), (4, true), (5, true), (6, true), (7, true), (8, true), (9, true), (10, true), (11, true), (12, true), (13, true), (14, true), (15, true), (16, true), (17, true), (18, true), (19, true), (20, true), (21, true), (22, true)] [(g0, .cells #[.string y2.f0, .int .i64 y2.f1, .int .i64 y2.f2] T0)] (List.forall_mem_cons.2 ⟨List.mem_cons_self, (fun p hp => by cases hp)⟩) (by kernel_rfl) (by kernel_rfl) (by kernel_rfl) ?_ (by kernel_rfl)
      refine gd_pure 3 [0, 1, 14] (K' := [(0, .pointer (some ⟨g0, 0, none⟩)), (1, .int .u8 a1), (14, .pointer (some ⟨g0, 1, none⟩))]) (s' := [(3, true), (4, true), (5, true), (6, true), (7, true), (8, true), (9, true), (10, true), (11, true), (12, true), (13, true), (14, true), (15, true), (16, true), (17, true), (18, true), (19, true), (20, true), (21, true), (22, true)]) (CC.refl (List.forall_mem_cons.2 ⟨List.mem_cons_self, (fun p hp => by cases hp)⟩)) (by kernel_rfl) ?_
      refine gd_q (v := .int .i64 y2.f1) (by kernel_rfl) (by kernel_rfl) (CC.refl (List.forall_mem_cons.2 ⟨List.mem_cons_self, (fun p hp => by cases hp)⟩)) (fun I' L' T hC kk => gl_loadB (T' := 3) (xp := (.tmp 14)) (v := .int .i64 y2.f1) (g := g0) (off := 1) (cs := #[.string y2.f0, .int .i64 y2.f1, .int .i64 y2.f2]) (e := T0) (fz := (0, 0)) (by kernel_rfl) (by kernel_rfl) (by kernel_rfl) (hC.sub _ List.mem_cons_self) (by kernel_rfl) kk) ?_
      refine gd_pure 3 [0, 1, 15, 18] (K' := [(0, .pointer (some ⟨g0, 0, none⟩)), (1, .int .u8 a1), (15, .int .i64 y2.f1), (18, .pointer (some ⟨g0, 0, none⟩))]) (s' := [(7, true), (8, true), (9, true), (10, true), (11, true), (12, true), (13, true), (14, true), (15, true), (16, true), (17, true), (18, true), (19, true), (20, true), (21, true), (22, true)]) (CC.refl (List.forall_mem_cons.2 ⟨List.mem_cons_self, (fun p hp => by cases hp)⟩)) (by kernel_rfl) ?_
      refine gd_q (v := .string y2.f0) (by kernel_rfl) (by kernel_rfl) (CC.refl (List.forall_mem_cons.2 ⟨List.mem_cons_self, (fun p hp => by cases hp)⟩)) (fun I' L' T hC kk => gl_loadB (T' := 9) (xp := (.tmp 18)) (v := .string y2.f0) (g := g0) (off := 0) (cs := #[.string y2.f0, .int .i64 y2.f1, .int .i64 y2.f2]) (e := T0) (fz := (0, 0)) (by kernel_rfl) (by kernel_rfl) (by kernel_rfl) (hC.sub _ List.mem_cons_self) (by kernel_rfl) kk) ?_
      refine gd_pure 3 [0, 1, 22] (K' := [(0, .pointer (some ⟨g0, 0, none⟩)), (1, .int .u8 a1), (22, .bool (decide (y2.f1 ≥ (y2.f0.size : Int))))]) (s' := [(11, true), (12, true), (13, true), (14, true), (15, true), (16, true), (17, true), (18, true), (19, true), (20, true), (21, true), (22, true)]) (CC.refl (List.forall_mem_cons.2 ⟨List.mem_cons_self, (fun p hp => by cases hp)⟩)) (by kernel_rfl) ?_
      refine gd_case 22 (b := (decide (y2.f1 ≥ (y2.f0.size : Int)))) (by kernel_rfl) (fun hc12 => ?_) (fun hc12 => ?_)
      · have hj8 := cond_t hc12 hj8
        refine gd_pure 12 [0, 34] (K' := [(0, .pointer (some ⟨g0, 0, none⟩)), (34, .bool true)]) (s' := []) (CC.refl (List.forall_mem_cons.2 ⟨List.mem_cons_self, (fun p hp => by cases hp)⟩)) (by kernel_rfl) ?_
        refine gd_done ?_
        refine gl_atE (by kernel_rfl) ?_
        obtain rfl := some_inj hj8
        exact ge_mid fun t ht => ⟨(Imm.refl _), rfl, ht.pick (l := [0, 34]) (by kernel_rfl)⟩
      · have hj8 := cond_f hc12 hj8
        refine gd_pure 3 [0, 1, 22, 25] (K' := [(0, .pointer (some ⟨g0, 0, none⟩)), (1, .int .u8 a1), (22, .bool false), (25, .pointer (some ⟨g0, 0, none⟩))]) (s' := [(14, true), (15, true), (16, true), (17, true), (18, true), (19, true), (20, true), (21, true), (22, true)]) (CC.refl (List.forall_mem_cons.2 ⟨List.mem_cons_self, (fun p hp => by cases hp)⟩)) (by kernel_rfl) ?_
        refine gd_q (v := .string y2.f0) (by kernel_rfl) (by kernel_rfl) (CC.refl (List.forall_mem_cons.2 ⟨List.mem_cons_self, (fun p hp => by cases hp)⟩)) (fun I' L' T hC kk => gl_loadB (T' := 9) (xp := (.tmp 25)) (v := .string y2.f0) (g := g0) (off := 0) (cs := #[.string y2.f0, .int .i64 y2.f1, .int .i64 y2.f2]) (e := T0) (fz := (0, 0)) (by kernel_rfl) (by kernel_rfl) (by kernel_rfl) (hC.sub _ List.mem_cons_self) (by kernel_rfl) kk) ?_
        refine gd_pure 3 [0, 1, 22, 26, 29] (K' := [(0, .pointer (some ⟨g0, 0, none⟩)), (1, .int .u8 a1), (22, .bool false), (26, .string y2.f0), (29, .pointer (some ⟨g0, 1, none⟩))]) (s' := [(18, true), (19, true), (20, true), (21, true), (22, true)]) (CC.refl (List.forall_mem_cons.2 ⟨List.mem_cons_self, (fun p hp => by cases hp)⟩)) (by kernel_rfl) ?_
        refine gd_q (v := .int .i64 y2.f1) (by kernel_rfl) (by kernel_rfl) (CC.refl (List.forall_mem_cons.2 ⟨List.mem_cons_self, (fun p hp => by cases hp)⟩)) (fun I' L' T hC kk => gl_loadB (T' := 3) (xp := (.tmp 29)) (v := .int .i64 y2.f1) (g := g0) (off := 1) (cs := #[.string y2.f0, .int .i64 y2.f1, .int .i64 y2.f2]) (e := T0) (fz := (0, 0)) (by kernel_rfl) (by kernel_rfl) (by kernel_rfl) (hC.sub _ List.mem_cons_self) (by kernel_rfl) kk) ?_
        obtain ⟨c13, hx14, hj8⟩ := bind_some hj8
        refine gd_q (v := .int .u8 c13) (by kernel_rfl) (by kernel_rfl) (CC.refl (List.forall_mem_cons.2 ⟨List.mem_cons_self, (fun p hp => by cases hp)⟩)) (fun I' L' T hC kk => gl_index' (T' := 9) (xs := (.tmp 26)) (xi := (.tmp 30)) (kd := .i64) hx14 (by kernel_rfl) (by kernel_rfl) (by kernel_rfl) (by kernel_rfl) (by kernel_rfl) kk) ?_
        refine gd_pure 3 [0, 34] (K' := [(0, .pointer (some ⟨g0, 0, none⟩)), (34, .bool (c13 != a1))]) (s' := []) (CC.refl (List.forall_mem_cons.2 ⟨List.mem_cons_self, (fun p hp => by cases hp)⟩)) (by kernel_rfl) ?_
        refine gd_done ?_
        refine gl_atE (by kernel_rfl) ?_
        obtain rfl := some_inj hj8
        exact ge_mid fun t ht => ⟨(Imm.refl _), rfl, ht.pick (l := [0, 34]) (by kernel_rfl)⟩
    · rintro t I11 L' ⟨hI9, rfl, hK10⟩
      refine ge_at hK10 ?_
      refine ge_seq ?_
      refine gk_cond (b := j7) (by kernel_rfl) (by kernel_rfl) (fun hc15 => ?_) (fun hc15 => ?_)
      · have hr := cond_t hc15 hr
        refine gk_seq (by kernel_rfl) ?_
        refine gk_region (by kernel_rfl) ?_
        refine gl_pure 1 [4] (K' := [(4, .bool false)]) (by kernel_rfl) ?_
        refine gl_atE (by kernel_rfl) ?_
        refine ge_seq ?_
        refine gk_ret (by kernel_rfl) ?_
        refine ge_seq_ret ?_
        obtain rfl := some_inj hr
        exact ge_result trivial (ResOk.tmp (by kernel_rfl) ResOk.nil) (Imm.trans hI6 hI9) ⟨rfl, rfl⟩
      · have hr := cond_f hc15 hr
        refine gk_skip (by kernel_rfl) ?_
        refine ge_seq ?_
        refine gk_seq (by kernel_rfl) ?_
        refine gk_region (by kernel_rfl) ?_
        refine gl_pure 3 [35, 37] (K' := [(35, .pointer (some ⟨g0, 0, none⟩)), (37, .pointer (some ⟨g0, 1, none⟩))]) (by kernel_rfl) ?_
        refine gl_loadB (T' := 3) (xp := (.tmp 37)) (v := .int .i64 y2.f1) (g := g0) (off := 1) (cs := #[.string y2.f0, .int .i64 y2.f1, .int .i64 y2.f2]) (e := T0) (fz := (0, 0)) (by kernel_rfl) (by kernel_rfl) (by kernel_rfl) List.mem_cons_self (by kernel_rfl) ?_
        refine gl_pure 3 [39, 41] (K' := [(39, .int .i64 (IntKind.wrap .i64 (y2.f1 + 1))), (41, .pointer (some ⟨g0, 1, none⟩))]) (by kernel_rfl) ?_
        refine gl_storeB (T' := 3) (xp := (.tmp 41)) (xv := (.tmp 39)) (v := .int .i64 (IntKind.wrap .i64 (y2.f1 + 1))) (g := g0) (off := 1) (cs := #[.string y2.f0, .int .i64 y2.f1, .int .i64 y2.f2]) (cs' := #[.string y2.f0, .int .i64 (IntKind.wrap .i64 (y2.f1 + 1)), .int .i64 y2.f2]) (by kernel_rfl) (by kernel_rfl) (by kernel_rfl) (by kernel_rfl) (by kernel_rfl) (Upd.set _ _ _ _) ?_ (by kernel_rfl)
        refine gl_atE (by kernel_rfl) ?_
        refine ge_seq ?_
        refine gk_seq (by kernel_rfl) ?_
        refine gk_region (by kernel_rfl) ?_
        refine gl_pure 1 [4] (K' := [(4, .bool true)]) (by kernel_rfl) ?_
        refine gl_atE (by kernel_rfl) ?_
        refine ge_seq ?_
        refine gk_ret (by kernel_rfl) ?_
        obtain rfl := some_inj hr
        exact ge_result trivial (ResOk.tmp (by kernel_rfl) ResOk.nil) (Imm.trans hI6 hI9) ⟨rfl, rfl⟩
/-! 113 labels_reader_want ('obj', 'imm') -/
noncomputable def labels_reader_want (a0 : S89) (a1 : Int) : Option S89 :=
  Option.bind (labels_reader_next a0 a1) fun (y1 : Bool × S89) =>
  Option.bind (bif (!y1.1) then
    (Option.bind (labels_reader_fail y1.2 y1.2.f1) fun (y12 : S89) =>
      some (y12.f0, y12.f1, y12.f2))
    else
    (some (y1.2.f0, y1.2.f1, y1.2.f2))) fun (j6 : ByteArray × Int × Int) =>
  some (⟨j6.1, j6.2.1, j6.2.2⟩ : S89)
theorem labels_reader_want_walk {a0 : S89} {g0 : Nat} {T0 : TypeId} {a1 : Int} {I : Imm} {r : S89}  (hr : labels_reader_want a0 a1 = some r) (L : Own) :
    CallsTo Tryz.prog 113 #[.pointer (some ⟨g0, 0, none⟩), .int .u8 a1] I ((g0, .cells #[.string a0.f0, .int .i64 a0.f1, .int .i64 a0.f2] T0) :: L) (fun v I' L' => v = .tuple #[] ∧ (g0, .cells #[.string r.f0, .int .i64 r.f1, .int .i64 r.f2] T0) :: L = L') := by
  unfold labels_reader_want at hr
  refine callsTo_body (N := 14) Tryz.func113 (by kernel_rfl) (by kernel_rfl) (by kernel_rfl) ?_
  refine gk_pick [0, 1] (K' := [(0, .pointer (some ⟨g0, 0, none⟩)), (1, .int .u8 a1)]) (by kernel_rfl) ?_
  refine gk_seq (by kernel_rfl) ?_
  refine gk_region (by kernel_rfl) ?_
  refine gl_pure 2 [0, 4, 5] (K' := [(0, .pointer (some ⟨g0, 0, none⟩)), (4, .pointer (some ⟨g0, 0, none⟩)), (5, .int .u8 a1)]) (by kernel_rfl) ?_
  obtain ⟨y1, hx2, hr⟩ := bind_some hr
  refine gl_call (by kernel_rfl) (labels_reader_next_walk (r := y1) (g0 := g0) (T0 := T0) (a0 := a0) hx2 _) ?_
  rintro v I3 L4 hI5 ⟨rfl, rfl⟩
  refine gl_pure 1 [0, 7] (K' := [(0, .pointer (some ⟨g0, 0, none⟩)), (7, .bool (!y1.1))]) (by kernel_rfl) ?_
  refine gl_atE (by kernel_rfl) ?_
  refine ge_seq ?_
  obtain ⟨j6, hj7, hr⟩ := bind_some hr
  refine gk_join (fun t I' L' => I3 ≤ I' ∧ (g0, .cells #[.string j6.1, .int .i64 j6.2.1, .int .i64 j6.2.2] T0) :: L = L' ∧ Knows 14 [] t) ?_ ?_
  · refine gk_cond (b := (!y1.1)) (by kernel_rfl) (by kernel_rfl) (fun hc11 => ?_) (fun hc11 => ?_)
    · have hj7 := cond_t hc11 hj7
      refine gk_region (by kernel_rfl) ?_
      refine gl_pure 4 [8, 11] (K' := [(8, .pointer (some ⟨g0, 0, none⟩)), (11, .pointer (some ⟨g0, 1, none⟩))]) (by kernel_rfl) ?_
      refine gl_loadB (T' := 3) (xp := (.tmp 11)) (v := .int .i64 y1.2.f1) (g := g0) (off := 1) (cs := #[.string y1.2.f0, .int .i64 y1.2.f1, .int .i64 y1.2.f2]) (e := T0) (fz := (0, 0)) (by kernel_rfl) (by kernel_rfl) (by kernel_rfl) List.mem_cons_self (by kernel_rfl) ?_
      obtain ⟨y12, hx13, hj7⟩ := bind_some hj7
      refine gl_call (by kernel_rfl) (labels_reader_fail_walk (r := y12) (g0 := g0) (T0 := T0) (a0 := y1.2) hx13 _) ?_
      rintro v I14 L15 hI16 ⟨rfl, rfl⟩
      refine gl_atE (by kernel_rfl) ?_
      obtain rfl := some_inj hj7
      exact ge_mid fun t ht => ⟨hI16, rfl, ht.pick (l := []) (by kernel_rfl)⟩
    · have hj7 := cond_f hc11 hj7
      refine gk_skip (by kernel_rfl) ?_
      obtain rfl := some_inj hj7
      exact ge_mid fun t ht => ⟨(Imm.refl _), rfl, ht.pick (l := []) (by kernel_rfl)⟩
  · rintro t I10 L' ⟨hI8, rfl, hK9⟩
    refine ge_at hK9 ?_
    obtain rfl := some_inj hr
    exact ge_result trivial ResOk.nil (Imm.trans hI5 hI8) ⟨rfl, rfl⟩
structure S127 where
  f1 : List Int
def strings_Builder_copyCheck (a0 : S127) : S127 := a0
theorem strings_Builder_copyCheck_walk {a0 : S127} {g0 : Nat} {q0_0 : Option Addr} {A0_1 : Option Addr} {c0_1 : Nat} {C0_1 : Own} {I : Imm} {r : S127} (hq0_0 : q0_0 = none ∨ q0_0 = some (⟨g0, 0, none⟩ : Addr)) (hO0_1 : OwnS (Kd.int .u8) 5 I A0_1 c0_1 a0.f1 C0_1) (hr : strings_Builder_copyCheck a0 = r) (L : Own) :
    CallsTo Tryz.prog 132 #[.pointer (some ⟨g0, 0, none⟩)] I ((g0, .cells #[.pointer q0_0, .slice A0_1 a0.f1.length c0_1] 128) :: (C0_1 ++ L)) (fun v I' L' => ∃ q0_0 A0_1 c0_1 C0_1, (q0_0 = none ∨ q0_0 = some (⟨g0, 0, none⟩ : Addr)) ∧ OwnS (Kd.int .u8) 5 I' A0_1 c0_1 r.f1 C0_1 ∧ v = .tuple #[] ∧ (g0, .cells #[.pointer q0_0, .slice A0_1 r.f1.length c0_1] 128) :: (C0_1 ++ L) = L') := by
  subst hr
  exact (bld_copyCheck hq0_0 (C0_1 ++ L)).mono fun v I' L' hI ⟨h1, h2⟩ => ⟨_, A0_1, c0_1, C0_1, .inr rfl, hO0_1.mono hI, h1, h2⟩
noncomputable def strings_Builder_String (a0 : S127) : Option ByteArray := strO a0.f1
theorem strings_Builder_String_walk {a0 : S127} {g0 : Nat} {q0_0 : Option Addr} {A0_1 : Option Addr} {c0_1 : Nat} {C0_1 : Own} {I : Imm} {r : ByteArray} (hq0_0 : q0_0 = none ∨ q0_0 = some (⟨g0, 0, none⟩ : Addr)) (hO0_1 : OwnS (Kd.int .u8) 5 I A0_1 c0_1 a0.f1 C0_1) (hr : strings_Builder_String a0 = some r) (L : Own) :
    CallsTo Tryz.prog 111 #[.pointer (some ⟨g0, 0, none⟩)] I ((g0, .cells #[.pointer q0_0, .slice A0_1 a0.f1.length c0_1] 128) :: (C0_1 ++ L)) (fun v I' L' => v = .string r ∧ L = L') := bld_String hO0_1 hr L

/-! 134 strings_Builder_WriteByte ('obj', 'imm') -/
noncomputable def strings_Builder_WriteByte (a0 : S127) (a1 : Int) : Option (Unit × S127) :=
  Option.bind (app ((strings_Builder_copyCheck (⟨a0.f1⟩ : S127)).f1) [a1]) fun (zs14 : List Int) =>
  some ((), (⟨zs14⟩ : S127))
theorem strings_Builder_WriteByte_walk {a0 : S127} {g0 : Nat} {q0_0 : Option Addr} {A0_1 : Option Addr} {c0_1 : Nat} {C0_1 : Own} {a1 : Int} {I : Imm} {r : Unit × S127}  (hq0_0 : q0_0 = none ∨ q0_0 = some (⟨g0, 0, none⟩ : Addr)) (hO0_1 : OwnS (Kd.int .u8) 5 I A0_1 c0_1 a0.f1 C0_1) (hr : strings_Builder_WriteByte a0 a1 = some r) (L : Own) :
    CallsTo Tryz.prog 134 #[.pointer (some ⟨g0, 0, none⟩), .int .u8 a1] I ((g0, .cells #[.pointer q0_0, .slice A0_1 a0.f1.length c0_1] 128) :: (C0_1 ++ L)) (fun v I' L' => ∃ q1_0 A1_1 c1_1 C1_1, (q1_0 = none ∨ q1_0 = some (⟨g0, 0, none⟩ : Addr)) ∧ OwnS (Kd.int .u8) 5 I' A1_1 c1_1 r.2.f1 C1_1 ∧ v = .nilIface ∧ (g0, .cells #[.pointer q1_0, .slice A1_1 r.2.f1.length c1_1] 128) :: (C1_1 ++ L) = L') := by
  unfold strings_Builder_WriteByte at hr
  refine callsTo_body (N := 17) Tryz.func134 (by kernel_rfl) (by kernel_rfl) (by kernel_rfl) ?_
  refine gk_pick [0, 1] (K' := [(0, .pointer (some ⟨g0, 0, none⟩)), (1, .int .u8 a1)]) (by kernel_rfl) ?_
  refine gk_seq (by kernel_rfl) ?_
  refine gk_region (by kernel_rfl) ?_
  refine gl_pure 1 [0, 1] (K' := [(0, .pointer (some ⟨g0, 0, none⟩)), (1, .int .u8 a1)]) (by kernel_rfl) ?_
  refine gl_atE (by kernel_rfl) ?_
  refine ge_seq ?_
  refine gk_seq (by kernel_rfl) ?_
  refine gk_region (by kernel_rfl) ?_
  refine gl_pure 1 [0, 1, 5] (K' := [(0, .pointer (some ⟨g0, 0, none⟩)), (1, .int .u8 a1), (5, .pointer (some ⟨g0, 0, none⟩))]) (by kernel_rfl) ?_
  refine gl_call (by kernel_rfl) (strings_Builder_copyCheck_walk (r := (strings_Builder_copyCheck (⟨a0.f1⟩ : S127))) (g0 := g0) (q0_0 := q0_0) (A0_1 := A0_1) (c0_1 := c0_1) (C0_1 := C0_1) (a0 := (⟨a0.f1⟩ : S127)) hq0_0 hO0_1 rfl _) ?_
  rintro v I1 L2 hI3 ⟨z4, A5, c6, C7, hO8, hO9, rfl, rfl⟩
  refine gl_atE (by kernel_rfl) ?_
  refine ge_seq ?_
  refine gk_seq (by kernel_rfl) ?_
  refine gk_region (by kernel_rfl) ?_
  refine gl_pure 4 [1, 7, 10] (K' := [(1, .int .u8 a1), (7, .pointer (some ⟨g0, 0, none⟩)), (10, .pointer (some ⟨g0, 1, none⟩))]) (by kernel_rfl) ?_
  refine gl_loadB (T' := 51) (xp := (.tmp 10)) (v := .slice A5 ((strings_Builder_copyCheck (⟨a0.f1⟩ : S127)).f1).length c6) (g := g0) (off := 1) (cs := #[.pointer z4, .slice A5 ((strings_Builder_copyCheck (⟨a0.f1⟩ : S127)).f1).length c6]) (e := 128) (fz := (0, 0)) (by kernel_rfl) (by kernel_rfl) (by kernel_rfl) List.mem_cons_self (by kernel_rfl) ?_
  refine gl_pure 1 [7, 11, 12] (K' := [(7, .pointer (some ⟨g0, 0, none⟩)), (11, .slice A5 ((strings_Builder_copyCheck (⟨a0.f1⟩ : S127)).f1).length c6), (12, .int .u8 a1)]) (by kernel_rfl) ?_
  refine gl_buildSlice (T' := 51) (e := 5) (n := 1) (len := 1) (parts := #[(0, (.tmp 12))]) (l := [(0, .int .u8 a1)]) (cs := #[.int .u8 a1]) (by kernel_rfl) (by kernel_rfl) (by kernel_rfl) (by kernel_rfl) (by kernel_rfl) (fun g10 => ?_)
  have hO11 : OwnS (Kd.int .u8) 5 I1 (some ⟨g10, 0, none⟩) 1 [a1] [(g10, .cells #[.int .u8 a1] 5)] := OwnS.lit (row_cons (l := [.int .u8 a1]) rfl (row_nil _ _)) rfl rfl rfl
  refine gl_reord (D := [(g10, .cells #[.int .u8 a1] 5)] ++ ((g0, .cells #[.pointer z4, .slice A5 ((strings_Builder_copyCheck (⟨a0.f1⟩ : S127)).f1).length c6] 128) :: (C7 ++ L))) (Reord.refl _) ?_
  obtain ⟨zs14, hz15, hr⟩ := bind_some hr
  refine gl_append (xv := .slice (some ⟨g10, 0, none⟩) [a1].length 1) (d := (Kd.int .u8)) (t := 51) (tx := 51) (e := 5) (s := (.tmp 11)) (x := (.tmp 13)) (xs := (strings_Builder_copyCheck (⟨a0.f1⟩ : S127)).f1) (fun X => [(g10, .cells #[.int .u8 a1] 5)] ++ ((g0, .cells #[.pointer z4, .slice A5 ((strings_Builder_copyCheck (⟨a0.f1⟩ : S127)).f1).length c6] 128) :: (X ++ L))) hz15 (by kernel_rfl) (by kernel_rfl) (by kernel_rfl) (by kernel_rfl) (by kernel_rfl) (by kernel_rfl) (fun X => (Upd.app _ (Upd.one _ (Upd.head _ X _)))) hO9 (SrcOk.slice (c := 1) (e := 5) (n := 1) (OwnS.rd hO11 (Upd.selfC _ _)) (by kernel_rfl)) (fun A16 n17 C18 hO19 => ?_)
  refine gl_pure 2 [14, 16] (K' := [(14, .slice A16 zs14.length n17), (16, .pointer (some ⟨g0, 1, none⟩))]) (by kernel_rfl) ?_
  refine gl_storeB (T' := 51) (xp := (.tmp 16)) (xv := (.tmp 14)) (v := .slice A16 zs14.length n17) (g := g0) (off := 1) (cs := #[.pointer z4, .slice A5 ((strings_Builder_copyCheck (⟨a0.f1⟩ : S127)).f1).length c6]) (cs' := #[.pointer z4, .slice A16 zs14.length n17]) (by kernel_rfl) (by kernel_rfl) (by kernel_rfl) (by kernel_rfl) (by kernel_rfl) (Upd.app _ (Upd.set _ _ _ _)) ?_ (by kernel_rfl)
  refine gl_atE (by kernel_rfl) ?_
  refine ge_seq ?_
  refine gk_seq (by kernel_rfl) ?_
  refine gk_region (by kernel_rfl) ?_
  refine gl_pure 1 [4] (K' := [(4, .nilIface)]) (by kernel_rfl) ?_
  refine gl_atE (by kernel_rfl) ?_
  refine ge_seq ?_
  refine gk_reord (D := (g0, .cells #[.pointer z4, .slice A16 zs14.length n17] 128) :: (C18 ++ L)) (Reord.step1 (Upd.app _ (Upd.rm1 _ _)) (Reord.step (Upd.app _ (Upd.rmC _ _)) (Reord.skipC (Reord.refl _)))) ?_
  refine gk_ret (by kernel_rfl) ?_
  obtain rfl := some_inj hr
  exact ge_result trivial (ResOk.tmp (by kernel_rfl) ResOk.nil) hI3 ⟨z4, A16, n17, C18, hO8, hO19, rfl, rfl⟩
/-! 114 labels_reader_value ('obj',) -/
noncomputable def labels_reader_value_l35 : (ByteArray × Int × Int × Unit × (List Int)) → Option ((ByteArray × Int × Int × Unit × (List Int)) ⊕ ((ByteArray × Int × Int) ⊕ (ByteArray × S89))) := fun s19 =>
  bif ((decide (s19.2.2.1 < 0)) && (decide (s19.2.1 < (s19.1.size : Int)))) then
  (Option.bind (bx s19.1 s19.2.1) fun (c44 : Int) =>
    bif (c44 == 34) then
    (Option.bind (strings_Builder_String (⟨s19.2.2.2.2⟩ : S127)) fun (y47 : ByteArray) =>
      some (Sum.inr (Sum.inr (y47, (⟨s19.1, (IntKind.wrap .i64 (s19.2.1 + 1)), s19.2.2.1⟩ : S89)))))
    else
    (Option.bind (bif (c44 != 92) then
        (Option.bind (strings_Builder_WriteByte (⟨s19.2.2.2.2⟩ : S127) c44) fun (y64 : Unit × S127) =>
          some ((), y64.2.f1, s19.1, (IntKind.wrap .i64 (s19.2.1 + 1)), s19.2.2.1))
        else
        (Option.bind (bif (decide ((IntKind.wrap .i64 (s19.2.1 + 1)) ≥ (s19.1.size : Int))) then
            (Option.bind (labels_reader_fail (⟨s19.1, (IntKind.wrap .i64 (s19.2.1 + 1)), s19.2.2.1⟩ : S89) (IntKind.wrap .i64 (s19.2.1 + 1))) fun (y87 : S89) =>
              some ((), s19.2.2.2.2, y87.f0, y87.f1, y87.f2))
            else
            (Option.bind (bx s19.1 (IntKind.wrap .i64 (s19.2.1 + 1))) fun (c92 : Int) =>
              Option.bind (bif (c92 == 110) then
                (Option.bind (strings_Builder_WriteByte (⟨s19.2.2.2.2⟩ : S127) 10) fun (y106 : Unit × S127) =>
                  some ((), y106.2.f1, s19.1, (IntKind.wrap .i64 (s19.2.1 + 1)), s19.2.2.1))
                else
                (Option.bind (bif ((c92 == 92) || (c92 == 34)) then
                    (Option.bind (strings_Builder_WriteByte (⟨s19.2.2.2.2⟩ : S127) c92) fun (y133 : Unit × S127) =>
                      some ((), y133.2.f1, s19.1, (IntKind.wrap .i64 (s19.2.1 + 1)), s19.2.2.1))
                    else
                    (Option.bind (labels_reader_fail (⟨s19.1, (IntKind.wrap .i64 (s19.2.1 + 1)), s19.2.2.1⟩ : S89) (IntKind.wrap .i64 ((IntKind.wrap .i64 (s19.2.1 + 1)) - 1))) fun (y144 : S89) =>
                      some ((), s19.2.2.2.2, y144.f0, y144.f1, y144.f2))) fun (j121 : Unit × (List Int) × ByteArray × Int × Int) =>
                  some ((), j121.2.1, j121.2.2.1, j121.2.2.2.1, j121.2.2.2.2))) fun (j94 : Unit × (List Int) × ByteArray × Int × Int) =>
              some ((), j94.2.1, j94.2.2.1, (IntKind.wrap .i64 (j94.2.2.2.1 + 1)), j94.2.2.2.2))) fun (j75 : Unit × (List Int) × ByteArray × Int × Int) =>
          some ((), j75.2.1, j75.2.2.1, j75.2.2.2.1, j75.2.2.2.2))) fun (j52 : Unit × (List Int) × ByteArray × Int × Int) =>
      some (Sum.inl (j52.2.2.1, j52.2.2.2.1, j52.2.2.2.2, (), j52.2.1))))
  else
  (some (Sum.inr (Sum.inl (s19.1, s19.2.1, s19.2.2.1))))
noncomputable def labels_reader_value (a0 : S89) : Option (ByteArray × S89) :=
  Option.bind (labels_reader_want a0 34) fun (y1 : S89) =>
  Option.bind (loopO labels_reader_value_l35 (y1.f0, y1.f1, y1.f2, (), [])) fun (r17 : (ByteArray × Int × Int) ⊕ (ByteArray × S89)) =>
  match r17 with
  | Sum.inl r31 => Option.bind (labels_reader_fail (⟨r31.1, r31.2.1, r31.2.2⟩ : S89) (r31.1.size : Int)) fun (y149 : S89) =>
    some ((⟨#[]⟩ : ByteArray), y149)
  | Sum.inr v154 => some v154
theorem labels_reader_value_walk {a0 : S89} {g0 : Nat} {T0 : TypeId} {I : Imm} {r : ByteArray × S89}  (hr : labels_reader_value a0 = some r) (L : Own) :
    CallsTo Tryz.prog 114 #[.pointer (some ⟨g0, 0, none⟩)] I ((g0, .cells #[.string a0.f0, .int .i64 a0.f1, .int .i64 a0.f2] T0) :: L) (fun v I' L' => v = .string r.1 ∧ (g0, .cells #[.string r.2.f0, .int .i64 r.2.f1, .int .i64 r.2.f2] T0) :: L = L') := by
  unfold labels_reader_value at hr
  refine callsTo_body (N := 108) Tryz.func114 (by kernel_rfl) (by kernel_rfl) (by kernel_rfl) ?_
  refine gk_pick [0] (K' := [(0, .pointer (some ⟨g0, 0, none⟩))]) (by kernel_rfl) ?_
  refine gk_seq (by kernel_rfl) ?_
  refine gk_region (by kernel_rfl) ?_
  refine gl_pure 1 [0] (K' := [(0, .pointer (some ⟨g0, 0, none⟩))]) (by kernel_rfl) ?_
  refine gl_atE (by kernel_rfl) ?_
  refine ge_seq ?_
  refine gk_seq (by kernel_rfl) ?_
  refine gk_region (by kernel_rfl) ?_
  refine gl_pure 1 [0, 6] (K' := [(0, .pointer (some ⟨g0, 0, none⟩)), (6, .pointer (some ⟨g0, 0, none⟩))]) (by kernel_rfl) ?_
  obtain ⟨y1, hx2, hr⟩ := bind_some hr
  refine gl_call (by kernel_rfl) (labels_reader_want_walk (r := y1) (g0 := g0) (T0 := T0) (a0 := a0) hx2 _) ?_
  rintro v I3 L4 hI5 ⟨rfl, rfl⟩
  refine gl_atE (by kernel_rfl) ?_
  refine ge_seq ?_
  refine gk_seq (by kernel_rfl) ?_
  refine gk_region (by kernel_rfl) ?_
  refine gl_alloc (T' := 128) (cs := #[.pointer none, .slice none 0 0]) (by kernel_rfl) (by kernel_rfl) (by kernel_rfl) (fun g6 => ?_)
  refine gl_atE (by kernel_rfl) ?_
  refine ge_seq ?_
  refine gk_seq (by kernel_rfl) ?_
  obtain ⟨r17, hl18, hr⟩ := bind_some hr
  refine gk_join (fun t I' L' => ∃ r31, r17 = Sum.inl r31 ∧ I3 ≤ I' ∧ (g0, .cells #[.string r31.1, .int .i64 r31.2.1, .int .i64 r31.2.2] T0) :: L = L' ∧ Knows 108 [(0, .pointer (some ⟨g0, 0, none⟩))] t) ?_ ?_
  · refine gk_block (by kernel_rfl) ?_
    refine gk_pick [0, 3] (K' := [(0, .pointer (some ⟨g0, 0, none⟩)), (3, .pointer (some ⟨g6, 0, none⟩))]) (by kernel_rfl) ?_
    intro t hK
    refine gc_loop (labels_reader_value_l35) (fun s19 t I' L' => ∃ q23 A25 n26 C27, (q23 = none ∨ q23 = some (⟨g6, 0, none⟩ : Addr)) ∧ OwnS (Kd.int .u8) 5 I' A25 n26 s19.2.2.2.2 C27 ∧ I3 ≤ I' ∧ C27 ++ ((g6, .cells #[.pointer q23, .slice A25 s19.2.2.2.2.length n26] 128) :: ((g0, .cells #[.string s19.1, .int .i64 s19.2.1, .int .i64 s19.2.2.1] T0) :: L)) = L' ∧ Knows 108 [(0, .pointer (some ⟨g0, 0, none⟩)), (3, .pointer (some ⟨g6, 0, none⟩))] t) (by kernel_rfl) ?_ hl18 ⟨none, none, 0, [], (Or.inl rfl), OwnS.nil _ _ _ _, (Imm.refl _), rfl, hK⟩
    rintro s19 o20 t I30 L' hb21 ⟨q23, A25, n26, C27, hq24, hO28, hI22, rfl, hK29⟩
    unfold labels_reader_value_l35 at hb21
    refine gk_at hK29 ?_
    refine gk_seq (by kernel_rfl) ?_
    refine gk_seq (by kernel_rfl) ?_
    obtain ⟨b39, hb40⟩ : ∃ z, z = ((decide (s19.2.2.1 < 0)) && (decide (s19.2.1 < (s19.1.size : Int)))) := ⟨_, rfl⟩
    refine gk_join (fun t I' L' => I30 ≤ I' ∧ C27 ++ ((g6, .cells #[.pointer q23, .slice A25 s19.2.2.2.2.length n26] 128) :: ((g0, .cells #[.string s19.1, .int .i64 s19.2.1, .int .i64 s19.2.2.1] T0) :: L)) = L' ∧ Knows 108 [(0, .pointer (some ⟨g0, 0, none⟩)), (3, .pointer (some ⟨g6, 0, none⟩)), (24, .bool b39)] t) ?_ ?_
    · refine gk_draw 17 [(0, true), (1, true), (2, true), (3, true), (4, true), (5, true), (6, true), (7, true), (8, true), (9, true), (10, true), (11, true), (12, true), (13, true), (14, true), (15, true), (16, true)] [(g6, .cells #[.pointer q23, .slice A25 s19.2.2.2.2.length n26] 128), (g0, .cells #[.string s19.1, .int .i64 s19.2.1, .int .i64 s19.2.2.1] T0)] (List.forall_mem_cons.2 ⟨(List.mem_append_right _ List.mem_cons_self), (List.forall_mem_cons.2 ⟨(List.mem_append_right _ (List.mem_cons_of_mem _ List.mem_cons_self)), (fun p hp => by cases hp)⟩)⟩) (by kernel_rfl) (by kernel_rfl) (by kernel_rfl) ?_ (by kernel_rfl)
      refine gd_pure 3 [0, 3, 10] (K' := [(0, .pointer (some ⟨g0, 0, none⟩)), (3, .pointer (some ⟨g6, 0, none⟩)), (10, .pointer (some ⟨g0, 2, none⟩))]) (s' := [(3, true), (4, true), (5, true), (6, true), (7, true), (8, true), (9, true), (10, true), (11, true), (12, true), (13, true), (14, true), (15, true), (16, true)]) (CC.refl (List.forall_mem_cons.2 ⟨(List.mem_append_right _ List.mem_cons_self), (List.forall_mem_cons.2 ⟨(List.mem_append_right _ (List.mem_cons_of_mem _ List.mem_cons_self)), (fun p hp => by cases hp)⟩)⟩)) (by kernel_rfl) ?_
      refine gd_q (v := .int .i64 s19.2.2.1) (by kernel_rfl) (by kernel_rfl) (CC.refl (List.forall_mem_cons.2 ⟨(List.mem_append_right _ List.mem_cons_self), (List.forall_mem_cons.2 ⟨(List.mem_append_right _ (List.mem_cons_of_mem _ List.mem_cons_self)), (fun p hp => by cases hp)⟩)⟩)) (fun I' L' T hC kk => gl_loadB (T' := 3) (xp := (.tmp 10)) (v := .int .i64 s19.2.2.1) (g := g0) (off := 2) (cs := #[.string s19.1, .int .i64 s19.2.1, .int .i64 s19.2.2.1]) (e := T0) (fz := (0, 0)) (by kernel_rfl) (by kernel_rfl) (by kernel_rfl) (hC.sub _ (List.mem_cons_of_mem _ List.mem_cons_self)) (by kernel_rfl) kk) ?_
      refine gd_pure 2 [0, 3, 13] (K' := [(0, .pointer (some ⟨g0, 0, none⟩)), (3, .pointer (some ⟨g6, 0, none⟩)), (13, .bool (decide (s19.2.2.1 < 0)))]) (s' := [(6, true), (7, true), (8, true), (9, true), (10, true), (11, true), (12, true), (13, true), (14, true), (15, true), (16, true)]) (CC.refl (List.forall_mem_cons.2 ⟨(List.mem_append_right _ List.mem_cons_self), (List.forall_mem_cons.2 ⟨(List.mem_append_right _ (List.mem_cons_of_mem _ List.mem_cons_self)), (fun p hp => by cases hp)⟩)⟩)) (by kernel_rfl) ?_
      refine gd_case 13 (b := (decide (s19.2.2.1 < 0))) (by kernel_rfl) (fun hc42 => ?_) (fun hc42 => ?_)
      · refine gd_pure 3 [0, 3, 13, 16] (K' := [(0, .pointer (some ⟨g0, 0, none⟩)), (3, .pointer (some ⟨g6, 0, none⟩)), (13, .bool true), (16, .pointer (some ⟨g0, 1, none⟩))]) (s' := [(9, true), (10, true), (11, true), (12, true), (13, true), (14, true), (15, true), (16, true)]) (CC.refl (List.forall_mem_cons.2 ⟨(List.mem_append_right _ List.mem_cons_self), (List.forall_mem_cons.2 ⟨(List.mem_append_right _ (List.mem_cons_of_mem _ List.mem_cons_self)), (fun p hp => by cases hp)⟩)⟩)) (by kernel_rfl) ?_
        refine gd_q (v := .int .i64 s19.2.1) (by kernel_rfl) (by kernel_rfl) (CC.refl (List.forall_mem_cons.2 ⟨(List.mem_append_right _ List.mem_cons_self), (List.forall_mem_cons.2 ⟨(List.mem_append_right _ (List.mem_cons_of_mem _ List.mem_cons_self)), (fun p hp => by cases hp)⟩)⟩)) (fun I' L' T hC kk => gl_loadB (T' := 3) (xp := (.tmp 16)) (v := .int .i64 s19.2.1) (g := g0) (off := 1) (cs := #[.string s19.1, .int .i64 s19.2.1, .int .i64 s19.2.2.1]) (e := T0) (fz := (0, 0)) (by kernel_rfl) (by kernel_rfl) (by kernel_rfl) (hC.sub _ (List.mem_cons_of_mem _ List.mem_cons_self)) (by kernel_rfl) kk) ?_
        refine gd_pure 3 [0, 3, 13, 17, 20] (K' := [(0, .pointer (some ⟨g0, 0, none⟩)), (3, .pointer (some ⟨g6, 0, none⟩)), (13, .bool true), (17, .int .i64 s19.2.1), (20, .pointer (some ⟨g0, 0, none⟩))]) (s' := [(13, true), (14, true), (15, true), (16, true)]) (CC.refl (List.forall_mem_cons.2 ⟨(List.mem_append_right _ List.mem_cons_self), (List.forall_mem_cons.2 ⟨(List.mem_append_right _ (List.mem_cons_of_mem _ List.mem_cons_self)), (fun p hp => by cases hp)⟩)⟩)) (by kernel_rfl) ?_
        refine gd_q (v := .string s19.1) (by kernel_rfl) (by kernel_rfl) (CC.refl (List.forall_mem_cons.2 ⟨(List.mem_append_right _ List.mem_cons_self), (List.forall_mem_cons.2 ⟨(List.mem_append_right _ (List.mem_cons_of_mem _ List.mem_cons_self)), (fun p hp => by cases hp)⟩)⟩)) (fun I' L' T hC kk => gl_loadB (T' := 9) (xp := (.tmp 20)) (v := .string s19.1) (g := g0) (off := 0) (cs := #[.string s19.1, .int .i64 s19.2.1, .int .i64 s19.2.2.1]) (e := T0) (fz := (0, 0)) (by kernel_rfl) (by kernel_rfl) (by kernel_rfl) (hC.sub _ (List.mem_cons_of_mem _ List.mem_cons_self)) (by kernel_rfl) kk) ?_
        refine gd_pure 3 [0, 3, 24] (K' := [(0, .pointer (some ⟨g0, 0, none⟩)), (3, .pointer (some ⟨g6, 0, none⟩)), (24, .bool (decide (s19.2.1 < (s19.1.size : Int))))]) (s' := []) (CC.refl (List.forall_mem_cons.2 ⟨(List.mem_append_right _ List.mem_cons_self), (List.forall_mem_cons.2 ⟨(List.mem_append_right _ (List.mem_cons_of_mem _ List.mem_cons_self)), (fun p hp => by cases hp)⟩)⟩)) (by kernel_rfl) ?_
        refine gd_done ?_
        refine gl_atE (by kernel_rfl) ?_
        exact ge_mid fun t ht => ⟨(Imm.refl _), rfl, by rw [(show b39 = (decide (s19.2.1 < (s19.1.size : Int))) from hb40.trans (by first | (rw [hc42]; done) | (rw [hc42]; rfl) | (simp [hc42]; done) | (simp only [hc42]; rfl) | (simp at *; omega)))]; exact ht.pick (l := [0, 3, 24]) (by kernel_rfl)⟩
      · refine gd_pure 11 [0, 3, 24] (K' := [(0, .pointer (some ⟨g0, 0, none⟩)), (3, .pointer (some ⟨g6, 0, none⟩)), (24, .bool false)]) (s' := []) (CC.refl (List.forall_mem_cons.2 ⟨(List.mem_append_right _ List.mem_cons_self), (List.forall_mem_cons.2 ⟨(List.mem_append_right _ (List.mem_cons_of_mem _ List.mem_cons_self)), (fun p hp => by cases hp)⟩)⟩)) (by kernel_rfl) ?_
        refine gd_done ?_
        refine gl_atE (by kernel_rfl) ?_
        exact ge_mid fun t ht => ⟨(Imm.refl _), rfl, by rw [(show b39 = false from hb40.trans (by first | (rw [hc42]; done) | (rw [hc42]; rfl) | (simp [hc42]; done) | (simp only [hc42]; rfl) | (simp at *; omega)))]; exact ht.pick (l := [0, 3, 24]) (by kernel_rfl)⟩
    · rintro t I41 L' ⟨hI37, rfl, hK38⟩
      subst hb40
      refine ge_at hK38 ?_
      refine ge_seq ?_
      refine gk_cond (b := ((decide (s19.2.2.1 < 0)) && (decide (s19.2.1 < (s19.1.size : Int))))) (by kernel_rfl) (by kernel_rfl) (fun hc43 => ?_) (fun hc43 => ?_)
      · have hb21 := cond_t hc43 hb21
        refine gk_skip (by kernel_rfl) ?_
        refine ge_seq ?_
        refine gk_block (by kernel_rfl) ?_
        refine gk_seq (by kernel_rfl) ?_
        refine gk_draw 10 [(0, true), (1, true), (2, true), (3, true), (4, true), (5, true), (6, true), (7, true), (8, true), (9, true)] [(g6, .cells #[.pointer q23, .slice A25 s19.2.2.2.2.length n26] 128), (g0, .cells #[.string s19.1, .int .i64 s19.2.1, .int .i64 s19.2.2.1] T0)] (List.forall_mem_cons.2 ⟨(List.mem_append_right _ List.mem_cons_self), (List.forall_mem_cons.2 ⟨(List.mem_append_right _ (List.mem_cons_of_mem _ List.mem_cons_self)), (fun p hp => by cases hp)⟩)⟩) (by kernel_rfl) (by kernel_rfl) (by kernel_rfl) ?_ (by kernel_rfl)
        refine gd_pure 3 [0, 3, 27] (K' := [(0, .pointer (some ⟨g0, 0, none⟩)), (3, .pointer (some ⟨g6, 0, none⟩)), (27, .pointer (some ⟨g0, 0, none⟩))]) (s' := [(3, true), (4, true), (5, true), (6, true), (7, true), (8, true), (9, true)]) (CC.refl (List.forall_mem_cons.2 ⟨(List.mem_append_right _ List.mem_cons_self), (List.forall_mem_cons.2 ⟨(List.mem_append_right _ (List.mem_cons_of_mem _ List.mem_cons_self)), (fun p hp => by cases hp)⟩)⟩)) (by kernel_rfl) ?_
        refine gd_q (v := .string s19.1) (by kernel_rfl) (by kernel_rfl) (CC.refl (List.forall_mem_cons.2 ⟨(List.mem_append_right _ List.mem_cons_self), (List.forall_mem_cons.2 ⟨(List.mem_append_right _ (List.mem_cons_of_mem _ List.mem_cons_self)), (fun p hp => by cases hp)⟩)⟩)) (fun I' L' T hC kk => gl_loadB (T' := 9) (xp := (.tmp 27)) (v := .string s19.1) (g := g0) (off := 0) (cs := #[.string s19.1, .int .i64 s19.2.1, .int .i64 s19.2.2.1]) (e := T0) (fz := (0, 0)) (by kernel_rfl) (by kernel_rfl) (by kernel_rfl) (hC.sub _ (List.mem_cons_of_mem _ List.mem_cons_self)) (by kernel_rfl) kk) ?_
        refine gd_pure 3 [0, 3, 28, 31] (K' := [(0, .pointer (some ⟨g0, 0, none⟩)), (3, .pointer (some ⟨g6, 0, none⟩)), (28, .string s19.1), (31, .pointer (some ⟨g0, 1, none⟩))]) (s' := [(7, true), (8, true), (9, true)]) (CC.refl (List.forall_mem_cons.2 ⟨(List.mem_append_right _ List.mem_cons_self), (List.forall_mem_cons.2 ⟨(List.mem_append_right _ (List.mem_cons_of_mem _ List.mem_cons_self)), (fun p hp => by cases hp)⟩)⟩)) (by kernel_rfl) ?_
        refine gd_q (v := .int .i64 s19.2.1) (by kernel_rfl) (by kernel_rfl) (CC.refl (List.forall_mem_cons.2 ⟨(List.mem_append_right _ List.mem_cons_self), (List.forall_mem_cons.2 ⟨(List.mem_append_right _ (List.mem_cons_of_mem _ List.mem_cons_self)), (fun p hp => by cases hp)⟩)⟩)) (fun I' L' T hC kk => gl_loadB (T' := 3) (xp := (.tmp 31)) (v := .int .i64 s19.2.1) (g := g0) (off := 1) (cs := #[.string s19.1, .int .i64 s19.2.1, .int .i64 s19.2.2.1]) (e := T0) (fz := (0, 0)) (by kernel_rfl) (by kernel_rfl) (by kernel_rfl) (hC.sub _ (List.mem_cons_of_mem _ List.mem_cons_self)) (by kernel_rfl) kk) ?_
        obtain ⟨c44, hx45, hb21⟩ := bind_some hb21
        refine gd_q (v := .int .u8 c44) (by kernel_rfl) (by kernel_rfl) (CC.refl (List.forall_mem_cons.2 ⟨(List.mem_append_right _ List.mem_cons_self), (List.forall_mem_cons.2 ⟨(List.mem_append_right _ (List.mem_cons_of_mem _ List.mem_cons_self)), (fun p hp => by cases hp)⟩)⟩)) (fun I' L' T hC kk => gl_index' (T' := 9) (xs := (.tmp 28)) (xi := (.tmp 32)) (kd := .i64) hx45 (by kernel_rfl) (by kernel_rfl) (by kernel_rfl) (by kernel_rfl) (by kernel_rfl) kk) ?_
        refine gd_pure 1 [0, 3, 4] (K' := [(0, .pointer (some ⟨g0, 0, none⟩)), (3, .pointer (some ⟨g6, 0, none⟩)), (4, .int .u8 c44)]) (s' := []) (CC.refl (List.forall_mem_cons.2 ⟨(List.mem_append_right _ List.mem_cons_self), (List.forall_mem_cons.2 ⟨(List.mem_append_right _ (List.mem_cons_of_mem _ List.mem_cons_self)), (fun p hp => by cases hp)⟩)⟩)) (by kernel_rfl) ?_
        refine gd_done ?_
        refine gl_atE (by kernel_rfl) ?_
        refine ge_seq ?_
        refine gk_seq (by kernel_rfl) ?_
        refine gk_region (by kernel_rfl) ?_
        refine gl_pure 3 [0, 3, 4, 34, 36] (K' := [(0, .pointer (some ⟨g0, 0, none⟩)), (3, .pointer (some ⟨g6, 0, none⟩)), (4, .int .u8 c44), (34, .pointer (some ⟨g0, 0, none⟩)), (36, .pointer (some ⟨g0, 1, none⟩))]) (by kernel_rfl) ?_
        refine gl_loadB (T' := 3) (xp := (.tmp 36)) (v := .int .i64 s19.2.1) (g := g0) (off := 1) (cs := #[.string s19.1, .int .i64 s19.2.1, .int .i64 s19.2.2.1]) (e := T0) (fz := (0, 0)) (by kernel_rfl) (by kernel_rfl) (by kernel_rfl) (List.mem_append_right _ (List.mem_cons_of_mem _ List.mem_cons_self)) (by kernel_rfl) ?_
        refine gl_pure 3 [0, 3, 4, 38, 40] (K' := [(0, .pointer (some ⟨g0, 0, none⟩)), (3, .pointer (some ⟨g6, 0, none⟩)), (4, .int .u8 c44), (38, .int .i64 (IntKind.wrap .i64 (s19.2.1 + 1))), (40, .pointer (some ⟨g0, 1, none⟩))]) (by kernel_rfl) ?_
        refine gl_storeB (T' := 3) (xp := (.tmp 40)) (xv := (.tmp 38)) (v := .int .i64 (IntKind.wrap .i64 (s19.2.1 + 1))) (g := g0) (off := 1) (cs := #[.string s19.1, .int .i64 s19.2.1, .int .i64 s19.2.2.1]) (cs' := #[.string s19.1, .int .i64 (IntKind.wrap .i64 (s19.2.1 + 1)), .int .i64 s19.2.2.1]) (by kernel_rfl) (by kernel_rfl) (by kernel_rfl) (by kernel_rfl) (by kernel_rfl) (Upd.app _ (Upd.one _ (Upd.set _ _ _ _))) ?_ (by kernel_rfl)
        refine gl_atE (by kernel_rfl) ?_
        refine ge_seq ?_
        refine gk_block (by kernel_rfl) ?_
        refine gk_seq (by kernel_rfl) ?_
        refine gk_region (by kernel_rfl) ?_
        refine gl_pure 3 [0, 3, 4, 75] (K' := [(0, .pointer (some ⟨g0, 0, none⟩)), (3, .pointer (some ⟨g6, 0, none⟩)), (4, .int .u8 c44), (75, .bool (c44 == 34))]) (by kernel_rfl) ?_
        refine gl_atE (by kernel_rfl) ?_
        refine ge_seq ?_
        refine gk_cond (b := (c44 == 34)) (by kernel_rfl) (by kernel_rfl) (fun hc46 => ?_) (fun hc46 => ?_)
        · have hb21 := cond_t hc46 hb21
          refine gk_seq (by kernel_rfl) ?_
          refine gk_region (by kernel_rfl) ?_
          obtain ⟨y47, hx48, hb21⟩ := bind_some hb21
          refine gl_reord (D := (g6, .cells #[.pointer q23, .slice A25 s19.2.2.2.2.length n26] 128) :: (C27 ++ ((g0, .cells #[.string s19.1, .int .i64 (IntKind.wrap .i64 (s19.2.1 + 1)), .int .i64 s19.2.2.1] T0) :: L))) (Reord.step1 (Upd.app _ (Upd.rm1 _ _)) (Reord.step (Upd.rmC _ _) (Reord.step1 (Upd.rm1 _ _) (Reord.refl _)))) ?_
          refine gl_call (by kernel_rfl) (strings_Builder_String_walk (r := y47) (g0 := g6) (q0_0 := q23) (A0_1 := A25) (c0_1 := n26) (C0_1 := C27) (a0 := (⟨s19.2.2.2.2⟩ : S127)) hq24 (hO28.mono hI37) hx48 _) ?_
          rintro v I49 L50 hI51 ⟨rfl, rfl⟩
          refine gl_pure 1 [2] (K' := [(2, .string y47)]) (by kernel_rfl) ?_
          refine gl_atE (by kernel_rfl) ?_
          refine ge_seq ?_
          refine gk_ret (by kernel_rfl) ?_
          refine ge_block_ret ?_
          refine ge_block_ret ?_
          obtain rfl := some_inj hb21
          refine ge_round_out (fun hrr => ?_) (by intro h; cases h)
          obtain rfl := hrr
          refine ge_block_ret ?_
          refine ge_seq_ret ?_
          refine ge_seq_ret ?_
          obtain rfl := some_inj hr
          exact ge_result trivial (ResOk.tmp (by kernel_rfl) ResOk.nil) (Imm.trans (Imm.trans (Imm.trans hI5 hI22) hI37) hI51) ⟨rfl, rfl⟩
        · have hb21 := cond_f hc46 hb21
          refine gk_seq (by kernel_rfl) ?_
          refine gk_region (by kernel_rfl) ?_
          refine gl_pure 3 [0, 3, 4, 79] (K' := [(0, .pointer (some ⟨g0, 0, none⟩)), (3, .pointer (some ⟨g6, 0, none⟩)), (4, .int .u8 c44), (79, .bool (c44 != 92))]) (by kernel_rfl) ?_
          refine gl_atE (by kernel_rfl) ?_
          refine ge_seq ?_
          obtain ⟨j52, hj53, hb21⟩ := bind_some hb21
          refine gk_join (fun t I' L' => ∃ q55 A57 n58 C59, (q55 = none ∨ q55 = some (⟨g6, 0, none⟩ : Addr)) ∧ OwnS (Kd.int .u8) 5 I' A57 n58 j52.2.1 C59 ∧ I41 ≤ I' ∧ C59 ++ ((g6, .cells #[.pointer q55, .slice A57 j52.2.1.length n58] 128) :: ((g0, .cells #[.string j52.2.2.1, .int .i64 j52.2.2.2.1, .int .i64 j52.2.2.2.2] T0) :: L)) = L' ∧ Knows 108 [(0, .pointer (some ⟨g0, 0, none⟩)), (3, .pointer (some ⟨g6, 0, none⟩))] t) ?_ ?_
          · refine gk_cond (b := (c44 != 92)) (by kernel_rfl) (by kernel_rfl) (fun hc63 => ?_) (fun hc63 => ?_)
            · have hj53 := cond_t hc63 hj53
              refine gk_region (by kernel_rfl) ?_
              refine gl_pure 1 [0, 3, 82] (K' := [(0, .pointer (some ⟨g0, 0, none⟩)), (3, .pointer (some ⟨g6, 0, none⟩)), (82, .int .u8 c44)]) (by kernel_rfl) ?_
              obtain ⟨y64, hx65, hj53⟩ := bind_some hj53
              refine gl_reord (D := (g6, .cells #[.pointer q23, .slice A25 s19.2.2.2.2.length n26] 128) :: (C27 ++ ((g0, .cells #[.string s19.1, .int .i64 (IntKind.wrap .i64 (s19.2.1 + 1)), .int .i64 s19.2.2.1] T0) :: L))) (Reord.step1 (Upd.app _ (Upd.rm1 _ _)) (Reord.step (Upd.rmC _ _) (Reord.step1 (Upd.rm1 _ _) (Reord.refl _)))) ?_
              refine gl_call (by kernel_rfl) (strings_Builder_WriteByte_walk (r := y64) (g0 := g6) (q0_0 := q23) (A0_1 := A25) (c0_1 := n26) (C0_1 := C27) (a0 := (⟨s19.2.2.2.2⟩ : S127)) hq24 (hO28.mono hI37) hx65 _) ?_
              rintro v I66 L67 hI68 ⟨z69, A70, c71, C72, hO73, hO74, rfl, rfl⟩
              refine gl_reord (D := C72 ++ ((g6, .cells #[.pointer z69, .slice A70 y64.2.f1.length c71] 128) :: ((g0, .cells #[.string s19.1, .int .i64 (IntKind.wrap .i64 (s19.2.1 + 1)), .int .i64 s19.2.2.1] T0) :: L))) (Reord.step (Upd.one _ (Upd.rmC _ _)) (Reord.step1 (Upd.rm1 _ _) (Reord.step1 (Upd.rm1 _ _) (Reord.refl _)))) ?_
              refine gl_atE (by kernel_rfl) ?_
              obtain rfl := some_inj hj53
              exact ge_mid fun t ht => ⟨z69, A70, c71, C72, hO73, hO74, hI68, rfl, ht.pick (l := [0, 3]) (by kernel_rfl)⟩
            · have hj53 := cond_f hc63 hj53
              refine gk_seq (by kernel_rfl) ?_
              refine gk_draw 11 [(0, true), (1, true), (2, true), (3, true), (4, true), (5, true), (6, true), (7, true), (8, true), (9, true), (10, true)] [(g6, .cells #[.pointer q23, .slice A25 s19.2.2.2.2.length n26] 128), (g0, .cells #[.string s19.1, .int .i64 (IntKind.wrap .i64 (s19.2.1 + 1)), .int .i64 s19.2.2.1] T0)] (List.forall_mem_cons.2 ⟨(List.mem_append_right _ List.mem_cons_self), (List.forall_mem_cons.2 ⟨(List.mem_append_right _ (List.mem_cons_of_mem _ List.mem_cons_self)), (fun p hp => by cases hp)⟩)⟩) (by kernel_rfl) (by kernel_rfl) (by kernel_rfl) ?_ (by kernel_rfl)
              refine gd_pure 3 [0, 3, 87] (K' := [(0, .pointer (some ⟨g0, 0, none⟩)), (3, .pointer (some ⟨g6, 0, none⟩)), (87, .pointer (some ⟨g0, 1, none⟩))]) (s' := [(3, true), (4, true), (5, true), (6, true), (7, true), (8, true), (9, true), (10, true)]) (CC.refl (List.forall_mem_cons.2 ⟨(List.mem_append_right _ List.mem_cons_self), (List.forall_mem_cons.2 ⟨(List.mem_append_right _ (List.mem_cons_of_mem _ List.mem_cons_self)), (fun p hp => by cases hp)⟩)⟩)) (by kernel_rfl) ?_
              refine gd_q (v := .int .i64 (IntKind.wrap .i64 (s19.2.1 + 1))) (by kernel_rfl) (by kernel_rfl) (CC.refl (List.forall_mem_cons.2 ⟨(List.mem_append_right _ List.mem_cons_self), (List.forall_mem_cons.2 ⟨(List.mem_append_right _ (List.mem_cons_of_mem _ List.mem_cons_self)), (fun p hp => by cases hp)⟩)⟩)) (fun I' L' T hC kk => gl_loadB (T' := 3) (xp := (.tmp 87)) (v := .int .i64 (IntKind.wrap .i64 (s19.2.1 + 1))) (g := g0) (off := 1) (cs := #[.string s19.1, .int .i64 (IntKind.wrap .i64 (s19.2.1 + 1)), .int .i64 s19.2.2.1]) (e := T0) (fz := (0, 0)) (by kernel_rfl) (by kernel_rfl) (by kernel_rfl) (hC.sub _ (List.mem_cons_of_mem _ List.mem_cons_self)) (by kernel_rfl) kk) ?_
              refine gd_pure 3 [0, 3, 88, 91] (K' := [(0, .pointer (some ⟨g0, 0, none⟩)), (3, .pointer (some ⟨g6, 0, none⟩)), (88, .int .i64 (IntKind.wrap .i64 (s19.2.1 + 1))), (91, .pointer (some ⟨g0, 0, none⟩))]) (s' := [(7, true), (8, true), (9, true), (10, true)]) (CC.refl (List.forall_mem_cons.2 ⟨(List.mem_append_right _ List.mem_cons_self), (List.forall_mem_cons.2 ⟨(List.mem_append_right _ (List.mem_cons_of_mem _ List.mem_cons_self)), (fun p hp => by cases hp)⟩)⟩)) (by kernel_rfl) ?_
              refine gd_q (v := .string s19.1) (by kernel_rfl) (by kernel_rfl) (CC.refl (List.forall_mem_cons.2 ⟨(List.mem_append_right _ List.mem_cons_self), (List.forall_mem_cons.2 ⟨(List.mem_append_right _ (List.mem_cons_of_mem _ List.mem_cons_self)), (fun p hp => by cases hp)⟩)⟩)) (fun I' L' T hC kk => gl_loadB (T' := 9) (xp := (.tmp 91)) (v := .string s19.1) (g := g0) (off := 0) (cs := #[.string s19.1, .int .i64 (IntKind.wrap .i64 (s19.2.1 + 1)), .int .i64 s19.2.2.1]) (e := T0) (fz := (0, 0)) (by kernel_rfl) (by kernel_rfl) (by kernel_rfl) (hC.sub _ (List.mem_cons_of_mem _ List.mem_cons_self)) (by kernel_rfl) kk) ?_
              refine gd_pure 3 [0, 3, 84] (K' := [(0, .pointer (some ⟨g0, 0, none⟩)), (3, .pointer (some ⟨g6, 0, none⟩)), (84, .bool (decide ((IntKind.wrap .i64 (s19.2.1 + 1)) ≥ (s19.1.size : Int))))]) (s' := []) (CC.refl (List.forall_mem_cons.2 ⟨(List.mem_append_right _ List.mem_cons_self), (List.forall_mem_cons.2 ⟨(List.mem_append_right _ (List.mem_cons_of_mem _ List.mem_cons_self)), (fun p hp => by cases hp)⟩)⟩)) (by kernel_rfl) ?_
              refine gd_done ?_
              refine gl_atE (by kernel_rfl) ?_
              refine ge_seq ?_
              obtain ⟨j75, hj76, hj53⟩ := bind_some hj53
              refine gk_join (fun t I' L' => ∃ q78 A80 n81 C82, (q78 = none ∨ q78 = some (⟨g6, 0, none⟩ : Addr)) ∧ OwnS (Kd.int .u8) 5 I' A80 n81 j75.2.1 C82 ∧ I41 ≤ I' ∧ C82 ++ ((g6, .cells #[.pointer q78, .slice A80 j75.2.1.length n81] 128) :: ((g0, .cells #[.string j75.2.2.1, .int .i64 j75.2.2.2.1, .int .i64 j75.2.2.2.2] T0) :: L)) = L' ∧ Knows 108 [(0, .pointer (some ⟨g0, 0, none⟩)), (3, .pointer (some ⟨g6, 0, none⟩))] t) ?_ ?_
              · refine gk_cond (b := (decide ((IntKind.wrap .i64 (s19.2.1 + 1)) ≥ (s19.1.size : Int)))) (by kernel_rfl) (by kernel_rfl) (fun hc86 => ?_) (fun hc86 => ?_)
                · have hj76 := cond_t hc86 hj76
                  refine gk_region (by kernel_rfl) ?_
                  refine gl_pure 4 [0, 3, 95, 98] (K' := [(0, .pointer (some ⟨g0, 0, none⟩)), (3, .pointer (some ⟨g6, 0, none⟩)), (95, .pointer (some ⟨g0, 0, none⟩)), (98, .pointer (some ⟨g0, 1, none⟩))]) (by kernel_rfl) ?_
                  refine gl_loadB (T' := 3) (xp := (.tmp 98)) (v := .int .i64 (IntKind.wrap .i64 (s19.2.1 + 1))) (g := g0) (off := 1) (cs := #[.string s19.1, .int .i64 (IntKind.wrap .i64 (s19.2.1 + 1)), .int .i64 s19.2.2.1]) (e := T0) (fz := (0, 0)) (by kernel_rfl) (by kernel_rfl) (by kernel_rfl) (List.mem_append_right _ (List.mem_cons_of_mem _ List.mem_cons_self)) (by kernel_rfl) ?_
                  obtain ⟨y87, hx88, hj76⟩ := bind_some hj76
                  refine gl_reord (D := (g0, .cells #[.string s19.1, .int .i64 (IntKind.wrap .i64 (s19.2.1 + 1)), .int .i64 s19.2.2.1] T0) :: (C27 ++ ((g6, .cells #[.pointer q23, .slice A25 s19.2.2.2.2.length n26] 128) :: L))) (Reord.step1 (Upd.app _ (Upd.one _ (Upd.rm1 _ _))) (Reord.step (Upd.rmC _ _) (Reord.step1 (Upd.rm1 _ _) (Reord.refl _)))) ?_
                  refine gl_call (by kernel_rfl) (labels_reader_fail_walk (r := y87) (g0 := g0) (T0 := T0) (a0 := (⟨s19.1, (IntKind.wrap .i64 (s19.2.1 + 1)), s19.2.2.1⟩ : S89)) hx88 _) ?_
                  rintro v I89 L90 hI91 ⟨rfl, rfl⟩
                  refine gl_reord (D := C27 ++ ((g6, .cells #[.pointer q23, .slice A25 s19.2.2.2.2.length n26] 128) :: ((g0, .cells #[.string y87.f0, .int .i64 y87.f1, .int .i64 y87.f2] T0) :: L))) (Reord.step (Upd.one _ (Upd.rmC _ _)) (Reord.step1 (Upd.one _ (Upd.rm1 _ _)) (Reord.step1 (Upd.rm1 _ _) (Reord.refl _)))) ?_
                  refine gl_atE (by kernel_rfl) ?_
                  obtain rfl := some_inj hj76
                  exact ge_mid fun t ht => ⟨q23, A25, n26, C27, hq24, (hO28.mono (Imm.trans hI37 hI91)), hI91, rfl, ht.pick (l := [0, 3]) (by kernel_rfl)⟩
                · have hj76 := cond_f hc86 hj76
                  refine gk_seq (by kernel_rfl) ?_
                  refine gk_draw 10 [(0, true), (1, true), (2, true), (3, true), (4, true), (5, true), (6, true), (7, true), (8, true), (9, true)] [(g6, .cells #[.pointer q23, .slice A25 s19.2.2.2.2.length n26] 128), (g0, .cells #[.string s19.1, .int .i64 (IntKind.wrap .i64 (s19.2.1 + 1)), .int .i64 s19.2.2.1] T0)] (List.forall_mem_cons.2 ⟨(List.mem_append_right _ List.mem_cons_self), (List.forall_mem_cons.2 ⟨(List.mem_append_right _ (List.mem_cons_of_mem _ List.mem_cons_self)), (fun p hp => by cases hp)⟩)⟩) (by kernel_rfl) (by kernel_rfl) (by kernel_rfl) ?_ (by kernel_rfl)
                  refine gd_pure 3 [0, 3, 43] (K' := [(0, .pointer (some ⟨g0, 0, none⟩)), (3, .pointer (some ⟨g6, 0, none⟩)), (43, .pointer (some ⟨g0, 0, none⟩))]) (s' := [(3, true), (4, true), (5, true), (6, true), (7, true), (8, true), (9, true)]) (CC.refl (List.forall_mem_cons.2 ⟨(List.mem_append_right _ List.mem_cons_self), (List.forall_mem_cons.2 ⟨(List.mem_append_right _ (List.mem_cons_of_mem _ List.mem_cons_self)), (fun p hp => by cases hp)⟩)⟩)) (by kernel_rfl) ?_
                  refine gd_q (v := .string s19.1) (by kernel_rfl) (by kernel_rfl) (CC.refl (List.forall_mem_cons.2 ⟨(List.mem_append_right _ List.mem_cons_self), (List.forall_mem_cons.2 ⟨(List.mem_append_right _ (List.mem_cons_of_mem _ List.mem_cons_self)), (fun p hp => by cases hp)⟩)⟩)) (fun I' L' T hC kk => gl_loadB (T' := 9) (xp := (.tmp 43)) (v := .string s19.1) (g := g0) (off := 0) (cs := #[.string s19.1, .int .i64 (IntKind.wrap .i64 (s19.2.1 + 1)), .int .i64 s19.2.2.1]) (e := T0) (fz := (0, 0)) (by kernel_rfl) (by kernel_rfl) (by kernel_rfl) (hC.sub _ (List.mem_cons_of_mem _ List.mem_cons_self)) (by kernel_rfl) kk) ?_
                  refine gd_pure 3 [0, 3, 44, 47] (K' := [(0, .pointer (some ⟨g0, 0, none⟩)), (3, .pointer (some ⟨g6, 0, none⟩)), (44, .string s19.1), (47, .pointer (some ⟨g0, 1, none⟩))]) (s' := [(7, true), (8, true), (9, true)]) (CC.refl (List.forall_mem_cons.2 ⟨(List.mem_append_right _ List.mem_cons_self), (List.forall_mem_cons.2 ⟨(List.mem_append_right _ (List.mem_cons_of_mem _ List.mem_cons_self)), (fun p hp => by cases hp)⟩)⟩)) (by kernel_rfl) ?_
                  refine gd_q (v := .int .i64 (IntKind.wrap .i64 (s19.2.1 + 1))) (by kernel_rfl) (by kernel_rfl) (CC.refl (List.forall_mem_cons.2 ⟨(List.mem_append_right _ List.mem_cons_self), (List.forall_mem_cons.2 ⟨(List.mem_append_right _ (List.mem_cons_of_mem _ List.mem_cons_self)), (fun p hp => by cases hp)⟩)⟩)) (fun I' L' T hC kk => gl_loadB (T' := 3) (xp := (.tmp 47)) (v := .int .i64 (IntKind.wrap .i64 (s19.2.1 + 1))) (g := g0) (off := 1) (cs := #[.string s19.1, .int .i64 (IntKind.wrap .i64 (s19.2.1 + 1)), .int .i64 s19.2.2.1]) (e := T0) (fz := (0, 0)) (by kernel_rfl) (by kernel_rfl) (by kernel_rfl) (hC.sub _ (List.mem_cons_of_mem _ List.mem_cons_self)) (by kernel_rfl) kk) ?_
                  obtain ⟨c92, hx93, hj76⟩ := bind_some hj76
                  refine gd_q (v := .int .u8 c92) (by kernel_rfl) (by kernel_rfl) (CC.refl (List.forall_mem_cons.2 ⟨(List.mem_append_right _ List.mem_cons_self), (List.forall_mem_cons.2 ⟨(List.mem_append_right _ (List.mem_cons_of_mem _ List.mem_cons_self)), (fun p hp => by cases hp)⟩)⟩)) (fun I' L' T hC kk => gl_index' (T' := 9) (xs := (.tmp 44)) (xi := (.tmp 48)) (kd := .i64) hx93 (by kernel_rfl) (by kernel_rfl) (by kernel_rfl) (by kernel_rfl) (by kernel_rfl) kk) ?_
                  refine gd_pure 1 [0, 3, 5] (K' := [(0, .pointer (some ⟨g0, 0, none⟩)), (3, .pointer (some ⟨g6, 0, none⟩)), (5, .int .u8 c92)]) (s' := []) (CC.refl (List.forall_mem_cons.2 ⟨(List.mem_append_right _ List.mem_cons_self), (List.forall_mem_cons.2 ⟨(List.mem_append_right _ (List.mem_cons_of_mem _ List.mem_cons_self)), (fun p hp => by cases hp)⟩)⟩)) (by kernel_rfl) ?_
                  refine gd_done ?_
                  refine gl_atE (by kernel_rfl) ?_
                  refine ge_seq ?_
                  refine gk_seq (by kernel_rfl) ?_
                  refine gk_seq (by kernel_rfl) ?_
                  refine gk_region (by kernel_rfl) ?_
                  refine gl_pure 2 [0, 3, 5, 51] (K' := [(0, .pointer (some ⟨g0, 0, none⟩)), (3, .pointer (some ⟨g6, 0, none⟩)), (5, .int .u8 c92), (51, .bool (c92 == 110))]) (by kernel_rfl) ?_
                  refine gl_atE (by kernel_rfl) ?_
                  refine ge_seq ?_
                  obtain ⟨j94, hj95, hj76⟩ := bind_some hj76
                  refine gk_join (fun t I' L' => ∃ q97 A99 n100 C101, (q97 = none ∨ q97 = some (⟨g6, 0, none⟩ : Addr)) ∧ OwnS (Kd.int .u8) 5 I' A99 n100 j94.2.1 C101 ∧ I41 ≤ I' ∧ C101 ++ ((g6, .cells #[.pointer q97, .slice A99 j94.2.1.length n100] 128) :: ((g0, .cells #[.string j94.2.2.1, .int .i64 j94.2.2.2.1, .int .i64 j94.2.2.2.2] T0) :: L)) = L' ∧ Knows 108 [(0, .pointer (some ⟨g0, 0, none⟩)), (3, .pointer (some ⟨g6, 0, none⟩))] t) ?_ ?_
                  · refine gk_cond (b := (c92 == 110)) (by kernel_rfl) (by kernel_rfl) (fun hc105 => ?_) (fun hc105 => ?_)
                    · have hj95 := cond_t hc105 hj95
                      refine gk_region (by kernel_rfl) ?_
                      obtain ⟨y106, hx107, hj95⟩ := bind_some hj95
                      refine gl_reord (D := (g6, .cells #[.pointer q23, .slice A25 s19.2.2.2.2.length n26] 128) :: (C27 ++ ((g0, .cells #[.string s19.1, .int .i64 (IntKind.wrap .i64 (s19.2.1 + 1)), .int .i64 s19.2.2.1] T0) :: L))) (Reord.step1 (Upd.app _ (Upd.rm1 _ _)) (Reord.step (Upd.rmC _ _) (Reord.step1 (Upd.rm1 _ _) (Reord.refl _)))) ?_
                      refine gl_call (by kernel_rfl) (strings_Builder_WriteByte_walk (r := y106) (g0 := g6) (q0_0 := q23) (A0_1 := A25) (c0_1 := n26) (C0_1 := C27) (a0 := (⟨s19.2.2.2.2⟩ : S127)) hq24 (hO28.mono hI37) hx107 _) ?_
                      rintro v I108 L109 hI110 ⟨z111, A112, c113, C114, hO115, hO116, rfl, rfl⟩
                      refine gl_reord (D := C114 ++ ((g6, .cells #[.pointer z111, .slice A112 y106.2.f1.length c113] 128) :: ((g0, .cells #[.string s19.1, .int .i64 (IntKind.wrap .i64 (s19.2.1 + 1)), .int .i64 s19.2.2.1] T0) :: L))) (Reord.step (Upd.one _ (Upd.rmC _ _)) (Reord.step1 (Upd.rm1 _ _) (Reord.step1 (Upd.rm1 _ _) (Reord.refl _)))) ?_
                      refine gl_atE (by kernel_rfl) ?_
                      obtain rfl := some_inj hj95
                      exact ge_mid fun t ht => ⟨z111, A112, c113, C114, hO115, hO116, hI110, rfl, ht.pick (l := [0, 3]) (by kernel_rfl)⟩
                    · have hj95 := cond_f hc105 hj95
                      refine gk_seq (by kernel_rfl) ?_
                      refine gk_join (fun t I' L' => I41 ≤ I' ∧ C27 ++ ((g6, .cells #[.pointer q23, .slice A25 s19.2.2.2.2.length n26] 128) :: ((g0, .cells #[.string s19.1, .int .i64 (IntKind.wrap .i64 (s19.2.1 + 1)), .int .i64 s19.2.2.1] T0) :: L)) = L' ∧ Knows 108 [(0, .pointer (some ⟨g0, 0, none⟩)), (3, .pointer (some ⟨g6, 0, none⟩)), (5, .int .u8 c92), (58, .bool ((c92 == 92) || (c92 == 34)))] t) ?_ ?_
                      · refine gk_region (by kernel_rfl) ?_
                        refine gl_pure 3 [0, 3, 5, 55] (K' := [(0, .pointer (some ⟨g0, 0, none⟩)), (3, .pointer (some ⟨g6, 0, none⟩)), (5, .int .u8 c92), (55, .bool (c92 == 92))]) (by kernel_rfl) ?_
                        refine gl_case 55 (b := (c92 == 92)) (by kernel_rfl) (fun hc120 => ?_) (fun hc120 => ?_)
                        · refine gl_pure 3 [0, 3, 5, 58] (K' := [(0, .pointer (some ⟨g0, 0, none⟩)), (3, .pointer (some ⟨g6, 0, none⟩)), (5, .int .u8 c92), (58, .bool true)]) (by kernel_rfl) ?_
                          refine gl_atE (by kernel_rfl) ?_
                          exact ge_mid fun t ht => ⟨(Imm.refl _), rfl, by rw [(show ((c92 == 92) || (c92 == 34)) = true from by first | (rw [hc120]; done) | (rw [hc120]; rfl) | (simp [hc120]; done) | (simp only [hc120]; rfl) | (simp at *; omega))]; exact ht.pick (l := [0, 3, 5, 58]) (by kernel_rfl)⟩
                        · refine gl_pure 3 [0, 3, 5, 58] (K' := [(0, .pointer (some ⟨g0, 0, none⟩)), (3, .pointer (some ⟨g6, 0, none⟩)), (5, .int .u8 c92), (58, .bool (c92 == 34))]) (by kernel_rfl) ?_
                          refine gl_atE (by kernel_rfl) ?_
                          exact ge_mid fun t ht => ⟨(Imm.refl _), rfl, by rw [(show ((c92 == 92) || (c92 == 34)) = (c92 == 34) from by first | (rw [hc120]; done) | (rw [hc120]; rfl) | (simp [hc120]; done) | (simp only [hc120]; rfl) | (simp at *; omega))]; exact ht.pick (l := [0, 3, 5, 58]) (by kernel_rfl)⟩
                      · rintro t I119 L' ⟨hI117, rfl, hK118⟩
                        refine ge_at hK118 ?_
                        refine ge_seq ?_
                        obtain ⟨j121, hj122, hj95⟩ := bind_some hj95
                        refine gk_join (fun t I' L' => ∃ q124 A126 n127 C128, (q124 = none ∨ q124 = some (⟨g6, 0, none⟩ : Addr)) ∧ OwnS (Kd.int .u8) 5 I' A126 n127 j121.2.1 C128 ∧ I119 ≤ I' ∧ C128 ++ ((g6, .cells #[.pointer q124, .slice A126 j121.2.1.length n127] 128) :: ((g0, .cells #[.string j121.2.2.1, .int .i64 j121.2.2.2.1, .int .i64 j121.2.2.2.2] T0) :: L)) = L' ∧ Knows 108 [(0, .pointer (some ⟨g0, 0, none⟩)), (3, .pointer (some ⟨g6, 0, none⟩))] t) ?_ ?_
                        · refine gk_cond (b := ((c92 == 92) || (c92 == 34))) (by kernel_rfl) (by kernel_rfl) (fun hc132 => ?_) (fun hc132 => ?_)
                          · have hj122 := cond_t hc132 hj122
                            refine gk_region (by kernel_rfl) ?_
                            refine gl_pure 1 [0, 3, 59] (K' := [(0, .pointer (some ⟨g0, 0, none⟩)), (3, .pointer (some ⟨g6, 0, none⟩)), (59, .int .u8 c92)]) (by kernel_rfl) ?_
                            obtain ⟨y133, hx134, hj122⟩ := bind_some hj122
                            refine gl_reord (D := (g6, .cells #[.pointer q23, .slice A25 s19.2.2.2.2.length n26] 128) :: (C27 ++ ((g0, .cells #[.string s19.1, .int .i64 (IntKind.wrap .i64 (s19.2.1 + 1)), .int .i64 s19.2.2.1] T0) :: L))) (Reord.step1 (Upd.app _ (Upd.rm1 _ _)) (Reord.step (Upd.rmC _ _) (Reord.step1 (Upd.rm1 _ _) (Reord.refl _)))) ?_
                            refine gl_call (by kernel_rfl) (strings_Builder_WriteByte_walk (r := y133) (g0 := g6) (q0_0 := q23) (A0_1 := A25) (c0_1 := n26) (C0_1 := C27) (a0 := (⟨s19.2.2.2.2⟩ : S127)) hq24 (hO28.mono (Imm.trans hI37 hI117)) hx134 _) ?_
                            rintro v I135 L136 hI137 ⟨z138, A139, c140, C141, hO142, hO143, rfl, rfl⟩
                            refine gl_reord (D := C141 ++ ((g6, .cells #[.pointer z138, .slice A139 y133.2.f1.length c140] 128) :: ((g0, .cells #[.string s19.1, .int .i64 (IntKind.wrap .i64 (s19.2.1 + 1)), .int .i64 s19.2.2.1] T0) :: L))) (Reord.step (Upd.one _ (Upd.rmC _ _)) (Reord.step1 (Upd.rm1 _ _) (Reord.step1 (Upd.rm1 _ _) (Reord.refl _)))) ?_
                            refine gl_atE (by kernel_rfl) ?_
                            obtain rfl := some_inj hj122
                            exact ge_mid fun t ht => ⟨z138, A139, c140, C141, hO142, hO143, hI137, rfl, ht.pick (l := [0, 3]) (by kernel_rfl)⟩
                          · have hj122 := cond_f hc132 hj122
                            refine gk_region (by kernel_rfl) ?_
                            refine gl_pure 4 [0, 3, 61, 64] (K' := [(0, .pointer (some ⟨g0, 0, none⟩)), (3, .pointer (some ⟨g6, 0, none⟩)), (61, .pointer (some ⟨g0, 0, none⟩)), (64, .pointer (some ⟨g0, 1, none⟩))]) (by kernel_rfl) ?_
                            refine gl_loadB (T' := 3) (xp := (.tmp 64)) (v := .int .i64 (IntKind.wrap .i64 (s19.2.1 + 1))) (g := g0) (off := 1) (cs := #[.string s19.1, .int .i64 (IntKind.wrap .i64 (s19.2.1 + 1)), .int .i64 s19.2.2.1]) (e := T0) (fz := (0, 0)) (by kernel_rfl) (by kernel_rfl) (by kernel_rfl) (List.mem_append_right _ (List.mem_cons_of_mem _ List.mem_cons_self)) (by kernel_rfl) ?_
                            refine gl_pure 1 [0, 3, 61, 66] (K' := [(0, .pointer (some ⟨g0, 0, none⟩)), (3, .pointer (some ⟨g6, 0, none⟩)), (61, .pointer (some ⟨g0, 0, none⟩)), (66, .int .i64 (IntKind.wrap .i64 ((IntKind.wrap .i64 (s19.2.1 + 1)) - 1)))]) (by kernel_rfl) ?_
                            obtain ⟨y144, hx145, hj122⟩ := bind_some hj122
                            refine gl_reord (D := (g0, .cells #[.string s19.1, .int .i64 (IntKind.wrap .i64 (s19.2.1 + 1)), .int .i64 s19.2.2.1] T0) :: (C27 ++ ((g6, .cells #[.pointer q23, .slice A25 s19.2.2.2.2.length n26] 128) :: L))) (Reord.step1 (Upd.app _ (Upd.one _ (Upd.rm1 _ _))) (Reord.step (Upd.rmC _ _) (Reord.step1 (Upd.rm1 _ _) (Reord.refl _)))) ?_
                            refine gl_call (by kernel_rfl) (labels_reader_fail_walk (r := y144) (g0 := g0) (T0 := T0) (a0 := (⟨s19.1, (IntKind.wrap .i64 (s19.2.1 + 1)), s19.2.2.1⟩ : S89)) hx145 _) ?_
                            rintro v I146 L147 hI148 ⟨rfl, rfl⟩
                            refine gl_reord (D := C27 ++ ((g6, .cells #[.pointer q23, .slice A25 s19.2.2.2.2.length n26] 128) :: ((g0, .cells #[.string y144.f0, .int .i64 y144.f1, .int .i64 y144.f2] T0) :: L))) (Reord.step (Upd.one _ (Upd.rmC _ _)) (Reord.step1 (Upd.one _ (Upd.rm1 _ _)) (Reord.step1 (Upd.rm1 _ _) (Reord.refl _)))) ?_
                            refine gl_atE (by kernel_rfl) ?_
                            obtain rfl := some_inj hj122
                            exact ge_mid fun t ht => ⟨q23, A25, n26, C27, hq24, (hO28.mono (Imm.trans (Imm.trans hI37 hI117) hI148)), hI148, rfl, ht.pick (l := [0, 3]) (by kernel_rfl)⟩
                        · rintro t I131 L' ⟨q124, A126, n127, C128, hq125, hO129, hI123, rfl, hK130⟩
                          refine ge_at hK130 ?_
                          obtain rfl := some_inj hj95
                          exact ge_mid fun t ht => ⟨q124, A126, n127, C128, hq125, hO129, (Imm.trans hI117 hI123), rfl, ht.pick (l := [0, 3]) (by kernel_rfl)⟩
                  · rintro t I104 L' ⟨q97, A99, n100, C101, hq98, hO102, hI96, rfl, hK103⟩
                    refine ge_at hK103 ?_
                    refine ge_seq ?_
                    refine gk_region (by kernel_rfl) ?_
                    refine gl_pure 3 [0, 3, 68, 70] (K' := [(0, .pointer (some ⟨g0, 0, none⟩)), (3, .pointer (some ⟨g6, 0, none⟩)), (68, .pointer (some ⟨g0, 0, none⟩)), (70, .pointer (some ⟨g0, 1, none⟩))]) (by kernel_rfl) ?_
                    refine gl_loadB (T' := 3) (xp := (.tmp 70)) (v := .int .i64 j94.2.2.2.1) (g := g0) (off := 1) (cs := #[.string j94.2.2.1, .int .i64 j94.2.2.2.1, .int .i64 j94.2.2.2.2]) (e := T0) (fz := (0, 0)) (by kernel_rfl) (by kernel_rfl) (by kernel_rfl) (List.mem_append_right _ (List.mem_cons_of_mem _ List.mem_cons_self)) (by kernel_rfl) ?_
                    refine gl_pure 3 [0, 3, 72, 74] (K' := [(0, .pointer (some ⟨g0, 0, none⟩)), (3, .pointer (some ⟨g6, 0, none⟩)), (72, .int .i64 (IntKind.wrap .i64 (j94.2.2.2.1 + 1))), (74, .pointer (some ⟨g0, 1, none⟩))]) (by kernel_rfl) ?_
                    refine gl_storeB (T' := 3) (xp := (.tmp 74)) (xv := (.tmp 72)) (v := .int .i64 (IntKind.wrap .i64 (j94.2.2.2.1 + 1))) (g := g0) (off := 1) (cs := #[.string j94.2.2.1, .int .i64 j94.2.2.2.1, .int .i64 j94.2.2.2.2]) (cs' := #[.string j94.2.2.1, .int .i64 (IntKind.wrap .i64 (j94.2.2.2.1 + 1)), .int .i64 j94.2.2.2.2]) (by kernel_rfl) (by kernel_rfl) (by kernel_rfl) (by kernel_rfl) (by kernel_rfl) (Upd.app _ (Upd.one _ (Upd.set _ _ _ _))) ?_ (by kernel_rfl)
                    refine gl_atE (by kernel_rfl) ?_
                    obtain rfl := some_inj hj76
                    exact ge_mid fun t ht => ⟨q97, A99, n100, C101, hq98, hO102, hI96, rfl, ht.pick (l := [0, 3]) (by kernel_rfl)⟩
              · rintro t I85 L' ⟨q78, A80, n81, C82, hq79, hO83, hI77, rfl, hK84⟩
                refine ge_at hK84 ?_
                obtain rfl := some_inj hj53
                exact ge_mid fun t ht => ⟨q78, A80, n81, C82, hq79, hO83, hI77, rfl, ht.pick (l := [0, 3]) (by kernel_rfl)⟩
          · rintro t I62 L' ⟨q55, A57, n58, C59, hq56, hO60, hI54, rfl, hK61⟩
            refine ge_at hK61 ?_
            refine ge_block_normal ?_
            refine ge_block_normal ?_
            obtain rfl := some_inj hb21
            exact ge_round fun t ht => ⟨q55, A57, n58, C59, hq56, hO60, (Imm.trans (Imm.trans hI22 hI37) hI54), rfl, ht.pick (l := [0, 3]) (by kernel_rfl)⟩
      · have hb21 := cond_f hc43 hb21
        refine gk_reord (D := (g0, .cells #[.string s19.1, .int .i64 s19.2.1, .int .i64 s19.2.2.1] T0) :: L) (Reord.step1 (Upd.app _ (Upd.one _ (Upd.rm1 _ _))) (Reord.skipC (Reord.skip (Reord.refl _)))) ?_
        refine gk_exit (by kernel_rfl) ?_
        refine ge_seq_exit ?_
        obtain rfl := some_inj hb21
        refine ge_round_out (fun hrr => ?_) (by intro h; cases h)
        obtain rfl := hrr
        refine ge_block_hit (by kernel_rfl) ?_
        exact ge_mid fun t ht => ⟨_, rfl, (Imm.trans hI22 hI37), rfl, ht.pick (l := [0]) (by kernel_rfl)⟩
  · rintro t I34 L' ⟨r31, rfl, hI32, rfl, hK33⟩
    refine ge_at hK33 ?_
    refine ge_seq ?_
    refine gk_seq (by kernel_rfl) ?_
    refine gk_region (by kernel_rfl) ?_
    refine gl_pure 4 [101, 104] (K' := [(101, .pointer (some ⟨g0, 0, none⟩)), (104, .pointer (some ⟨g0, 0, none⟩))]) (by kernel_rfl) ?_
    refine gl_loadB (T' := 9) (xp := (.tmp 104)) (v := .string r31.1) (g := g0) (off := 0) (cs := #[.string r31.1, .int .i64 r31.2.1, .int .i64 r31.2.2]) (e := T0) (fz := (0, 0)) (by kernel_rfl) (by kernel_rfl) (by kernel_rfl) List.mem_cons_self (by kernel_rfl) ?_
    refine gl_pure 1 [101, 106] (K' := [(101, .pointer (some ⟨g0, 0, none⟩)), (106, .int .i64 (r31.1.size : Int))]) (by kernel_rfl) ?_
    obtain ⟨y149, hx150, hr⟩ := bind_some hr
    refine gl_call (by kernel_rfl) (labels_reader_fail_walk (r := y149) (g0 := g0) (T0 := T0) (a0 := (⟨r31.1, r31.2.1, r31.2.2⟩ : S89)) hx150 _) ?_
    rintro v I151 L152 hI153 ⟨rfl, rfl⟩
    refine gl_atE (by kernel_rfl) ?_
    refine ge_seq ?_
    refine gk_seq (by kernel_rfl) ?_
    refine gk_region (by kernel_rfl) ?_
    refine gl_pure 1 [2] (K' := [(2, .string (⟨#[]⟩ : ByteArray))]) (by kernel_rfl) ?_
    refine gl_atE (by kernel_rfl) ?_
    refine ge_seq ?_
    refine gk_ret (by kernel_rfl) ?_
    obtain rfl := some_inj hr
    exact ge_result trivial (ResOk.tmp (by kernel_rfl) ResOk.nil) (Imm.trans (Imm.trans hI5 hI32) hI153) ⟨rfl, rfl⟩
/-! 70 labels_reader_braces ('obj',) -/
noncomputable def labels_reader_braces_l29 : (ByteArray × Int × Int × (List S49)) → Option ((ByteArray × Int × Int × (List S49)) ⊕ (((List S49) × ByteArray × Int × Int) ⊕ ((List S49) × S89))) := fun s11 =>
  Option.bind (labels_reader_next (⟨s11.1, s11.2.1, s11.2.2.1⟩ : S89) 125) fun (y31 : Bool × S89) =>
  bif (!y31.1) then
  (Option.bind (labels_reader_name y31.2 false) fun (y37 : ByteArray × S89) =>
    Option.bind (labels_reader_want y37.2 61) fun (y43 : S89) =>
    Option.bind (labels_reader_value y43) fun (y48 : ByteArray × S89) =>
    bif (decide (y48.2.f2 ≥ 0)) then
    (some (Sum.inr (Sum.inr ([], y48.2))))
    else
    (Option.bind (app s11.2.2.2 [(⟨y37.1, y48.1⟩ : S49)]) fun (zs58 : List S49) =>
      Option.bind (labels_reader_next y48.2 44) fun (y64 : Bool × S89) =>
      bif (!y64.1) then
      (Option.bind (labels_reader_want y64.2 125) fun (y70 : S89) =>
        some (Sum.inr (Sum.inr (zs58, y70))))
      else
      (some (Sum.inl (y64.2.f0, y64.2.f1, y64.2.f2, zs58)))))
  else
  (some (Sum.inr (Sum.inl (s11.2.2.2, y31.2.f0, y31.2.f1, y31.2.f2))))
noncomputable def labels_reader_braces (a0 : S89) : Option ((List S49) × S89) :=
  Option.bind (loopO labels_reader_braces_l29 (a0.f0, a0.f1, a0.f2, [])) fun (r9 : ((List S49) × ByteArray × Int × Int) ⊕ ((List S49) × S89)) =>
  match r9 with
  | Sum.inl r21 => some (r21.1, (⟨r21.2.1, r21.2.2.1, r21.2.2.2⟩ : S89))
  | Sum.inr v75 => some v75
theorem labels_reader_braces_walk {a0 : S89} {g0 : Nat} {T0 : TypeId} {I : Imm} {r : (List S49) × S89}  (hr : labels_reader_braces a0 = some r) (L : Own) :
    CallsTo Tryz.prog 70 #[.pointer (some ⟨g0, 0, none⟩)] I ((g0, .cells #[.string a0.f0, .int .i64 a0.f1, .int .i64 a0.f2] T0) :: L) (fun v I' L' => ∃ A0 c0 C0, OwnS kS49 50 I' A0 c0 r.1 C0 ∧ v = .slice A0 r.1.length c0 ∧ C0 ++ ((g0, .cells #[.string r.2.f0, .int .i64 r.2.f1, .int .i64 r.2.f2] T0) :: L) = L') := by
  unfold labels_reader_braces at hr
  refine callsTo_body (N := 32) Tryz.func70 (by kernel_rfl) (by kernel_rfl) (by kernel_rfl) ?_
  refine gk_pick [0] (K' := [(0, .pointer (some ⟨g0, 0, none⟩))]) (by kernel_rfl) ?_
  refine gk_seq (by kernel_rfl) ?_
  refine gk_region (by kernel_rfl) ?_
  refine gl_pure 1 [0] (K' := [(0, .pointer (some ⟨g0, 0, none⟩))]) (by kernel_rfl) ?_
  refine gl_atE (by kernel_rfl) ?_
  refine ge_seq ?_
  refine gk_seq (by kernel_rfl) ?_
  refine gk_region (by kernel_rfl) ?_
  refine gl_pure 1 [0, 3] (K' := [(0, .pointer (some ⟨g0, 0, none⟩)), (3, .slice none 0 0)]) (by kernel_rfl) ?_
  refine gl_atE (by kernel_rfl) ?_
  refine ge_seq ?_
  refine gk_seq (by kernel_rfl) ?_
  obtain ⟨r9, hl10, hr⟩ := bind_some hr
  refine gk_join (fun t I' L' => ∃ r21, r9 = Sum.inl r21 ∧ ∃ A23 n24 C25, OwnS kS49 50 I' A23 n24 r21.1 C25 ∧ I ≤ I' ∧ C25 ++ ((g0, .cells #[.string r21.2.1, .int .i64 r21.2.2.1, .int .i64 r21.2.2.2] T0) :: L) = L' ∧ Knows 32 [(3, .slice A23 r21.1.length n24)] t) ?_ ?_
  · refine gk_block (by kernel_rfl) ?_
    refine gk_pick [0, 3] (K' := [(0, .pointer (some ⟨g0, 0, none⟩)), (3, .slice none 0 0)]) (by kernel_rfl) ?_
    intro t hK
    refine gc_loop (labels_reader_braces_l29) (fun s11 t I' L' => ∃ A15 n16 C17, OwnS kS49 50 I' A15 n16 s11.2.2.2 C17 ∧ I ≤ I' ∧ C17 ++ ((g0, .cells #[.string s11.1, .int .i64 s11.2.1, .int .i64 s11.2.2.1] T0) :: L) = L' ∧ Knows 32 [(0, .pointer (some ⟨g0, 0, none⟩)), (3, .slice A15 s11.2.2.2.length n16)] t) (by kernel_rfl) ?_ hl10 ⟨none, 0, [], OwnS.nil _ _ _ _, (Imm.refl _), rfl, hK⟩
    rintro s11 o12 t I20 L' hb13 ⟨A15, n16, C17, hO18, hI14, rfl, hK19⟩
    unfold labels_reader_braces_l29 at hb13
    refine gk_at hK19 ?_
    refine gk_seq (by kernel_rfl) ?_
    refine gk_seq (by kernel_rfl) ?_
    refine gk_region (by kernel_rfl) ?_
    refine gl_pure 1 [0, 3, 5] (K' := [(0, .pointer (some ⟨g0, 0, none⟩)), (3, .slice A15 s11.2.2.2.length n16), (5, .pointer (some ⟨g0, 0, none⟩))]) (by kernel_rfl) ?_
    obtain ⟨y31, hx32, hb13⟩ := bind_some hb13
    refine gl_reord (D := (g0, .cells #[.string s11.1, .int .i64 s11.2.1, .int .i64 s11.2.2.1] T0) :: (C17 ++ L)) (Reord.step1 (Upd.app _ (Upd.rm1 _ _)) (Reord.step (Upd.rmC _ _) (Reord.refl _))) ?_
    refine gl_call (by kernel_rfl) (labels_reader_next_walk (r := y31) (g0 := g0) (T0 := T0) (a0 := (⟨s11.1, s11.2.1, s11.2.2.1⟩ : S89)) hx32 _) ?_
    rintro v I33 L34 hI35 ⟨rfl, rfl⟩
    refine gl_pure 1 [0, 3, 7] (K' := [(0, .pointer (some ⟨g0, 0, none⟩)), (3, .slice A15 s11.2.2.2.length n16), (7, .bool (!y31.1))]) (by kernel_rfl) ?_
    refine gl_atE (by kernel_rfl) ?_
    refine ge_seq ?_
    refine gk_cond (b := (!y31.1)) (by kernel_rfl) (by kernel_rfl) (fun hc36 => ?_) (fun hc36 => ?_)
    · have hb13 := cond_t hc36 hb13
      refine gk_skip (by kernel_rfl) ?_
      refine ge_seq ?_
      refine gk_block (by kernel_rfl) ?_
      refine gk_seq (by kernel_rfl) ?_
      refine gk_region (by kernel_rfl) ?_
      refine gl_pure 1 [0, 3, 8] (K' := [(0, .pointer (some ⟨g0, 0, none⟩)), (3, .slice A15 s11.2.2.2.length n16), (8, .pointer (some ⟨g0, 0, none⟩))]) (by kernel_rfl) ?_
      obtain ⟨y37, hx38, hb13⟩ := bind_some hb13
      refine gl_call (by kernel_rfl) (labels_reader_name_walk (r := y37) (g0 := g0) (T0 := T0) (a0 := y31.2) hx38 _) ?_
      rintro v I39 L40 hI41 ⟨rfl, rfl⟩
      refine gl_pure 1 [0, 3, 10] (K' := [(0, .pointer (some ⟨g0, 0, none⟩)), (3, .slice A15 s11.2.2.2.length n16), (10, .agg #[.string y37.1, .string (⟨#[]⟩ : ByteArray)])]) (by kernel_rfl) ?_
      refine gl_alloc (T' := 50) (cs := #[.string (⟨#[]⟩ : ByteArray), .string (⟨#[]⟩ : ByteArray)]) (by kernel_rfl) (by kernel_rfl) (by kernel_rfl) (fun g42 => ?_)
      refine gl_storeB (T' := 50) (xp := (.tmp 4)) (xv := (.tmp 10)) (v := .agg #[.string y37.1, .string (⟨#[]⟩ : ByteArray)]) (g := g42) (off := 0) (cs := #[.string (⟨#[]⟩ : ByteArray), .string (⟨#[]⟩ : ByteArray)]) (cs' := #[.string y37.1, .string (⟨#[]⟩ : ByteArray)]) (by kernel_rfl) (by kernel_rfl) (by kernel_rfl) (by kernel_rfl) (by kernel_rfl) (Upd.set _ _ _ _) ?_ (by kernel_rfl)
      refine gl_atE (by kernel_rfl) ?_
      refine ge_seq ?_
      refine gk_seq (by kernel_rfl) ?_
      refine gk_region (by kernel_rfl) ?_
      refine gl_pure 1 [0, 3, 4, 11] (K' := [(0, .pointer (some ⟨g0, 0, none⟩)), (3, .slice A15 s11.2.2.2.length n16), (4, .pointer (some ⟨g42, 0, none⟩)), (11, .pointer (some ⟨g0, 0, none⟩))]) (by kernel_rfl) ?_
      obtain ⟨y43, hx44, hb13⟩ := bind_some hb13
      refine gl_reord (D := (g0, .cells #[.string y37.2.f0, .int .i64 y37.2.f1, .int .i64 y37.2.f2] T0) :: ((g42, .cells #[.string y37.1, .string (⟨#[]⟩ : ByteArray)] 50) :: (C17 ++ L))) (Reord.step1 (Upd.one _ (Upd.rm1 _ _)) (Reord.step1 (Upd.rm1 _ _) (Reord.step (Upd.rmC _ _) (Reord.refl _)))) ?_
      refine gl_call (by kernel_rfl) (labels_reader_want_walk (r := y43) (g0 := g0) (T0 := T0) (a0 := y37.2) hx44 _) ?_
      rintro v I45 L46 hI47 ⟨rfl, rfl⟩
      refine gl_atE (by kernel_rfl) ?_
      refine ge_seq ?_
      refine gk_seq (by kernel_rfl) ?_
      refine gk_region (by kernel_rfl) ?_
      refine gl_pure 1 [0, 3, 4, 13] (K' := [(0, .pointer (some ⟨g0, 0, none⟩)), (3, .slice A15 s11.2.2.2.length n16), (4, .pointer (some ⟨g42, 0, none⟩)), (13, .pointer (some ⟨g0, 0, none⟩))]) (by kernel_rfl) ?_
      obtain ⟨y48, hx49, hb13⟩ := bind_some hb13
      refine gl_call (by kernel_rfl) (labels_reader_value_walk (r := y48) (g0 := g0) (T0 := T0) (a0 := y43) hx49 _) ?_
      rintro v I50 L51 hI52 ⟨rfl, rfl⟩
      refine gl_pure 1 [0, 3, 4, 14, 15] (K' := [(0, .pointer (some ⟨g0, 0, none⟩)), (3, .slice A15 s11.2.2.2.length n16), (4, .pointer (some ⟨g42, 0, none⟩)), (14, .string y48.1), (15, .pointer (some ⟨g42, 1, none⟩))]) (by kernel_rfl) ?_
      refine gl_storeB (T' := 9) (xp := (.tmp 15)) (xv := (.tmp 14)) (v := .string y48.1) (g := g42) (off := 1) (cs := #[.string y37.1, .string (⟨#[]⟩ : ByteArray)]) (cs' := #[.string y37.1, .string y48.1]) (by kernel_rfl) (by kernel_rfl) (by kernel_rfl) (by kernel_rfl) (by kernel_rfl) (Upd.one _ (Upd.set _ _ _ _)) ?_ (by kernel_rfl)
      refine gl_atE (by kernel_rfl) ?_
      refine ge_seq ?_
      refine gk_seq (by kernel_rfl) ?_
      refine gk_seq (by kernel_rfl) ?_
      refine gk_region (by kernel_rfl) ?_
      refine gl_pure 3 [0, 3, 4, 18] (K' := [(0, .pointer (some ⟨g0, 0, none⟩)), (3, .slice A15 s11.2.2.2.length n16), (4, .pointer (some ⟨g42, 0, none⟩)), (18, .pointer (some ⟨g0, 2, none⟩))]) (by kernel_rfl) ?_
      refine gl_loadB (T' := 3) (xp := (.tmp 18)) (v := .int .i64 y48.2.f2) (g := g0) (off := 2) (cs := #[.string y48.2.f0, .int .i64 y48.2.f1, .int .i64 y48.2.f2]) (e := T0) (fz := (0, 0)) (by kernel_rfl) (by kernel_rfl) (by kernel_rfl) List.mem_cons_self (by kernel_rfl) ?_
      refine gl_pure 1 [0, 3, 4, 20] (K' := [(0, .pointer (some ⟨g0, 0, none⟩)), (3, .slice A15 s11.2.2.2.length n16), (4, .pointer (some ⟨g42, 0, none⟩)), (20, .bool (decide (y48.2.f2 ≥ 0)))]) (by kernel_rfl) ?_
      refine gl_atE (by kernel_rfl) ?_
      refine ge_seq ?_
      refine gk_cond (b := (decide (y48.2.f2 ≥ 0))) (by kernel_rfl) (by kernel_rfl) (fun hc53 => ?_) (fun hc53 => ?_)
      · have hb13 := cond_t hc53 hb13
        refine gk_seq (by kernel_rfl) ?_
        refine gk_region (by kernel_rfl) ?_
        refine gl_pure 1 [2] (K' := [(2, .slice none 0 0)]) (by kernel_rfl) ?_
        refine gl_atE (by kernel_rfl) ?_
        refine ge_seq ?_
        refine gk_reord (D := (g0, .cells #[.string y48.2.f0, .int .i64 y48.2.f1, .int .i64 y48.2.f2] T0) :: L) (Reord.step1 (Upd.rm1 _ _) (Reord.skip (Reord.skipC (Reord.refl _)))) ?_
        refine gk_ret (by kernel_rfl) ?_
        refine ge_seq_ret ?_
        refine ge_block_ret ?_
        obtain rfl := some_inj hb13
        refine ge_round_out (fun hrr => ?_) (by intro h; cases h)
        obtain rfl := hrr
        refine ge_block_ret ?_
        refine ge_seq_ret ?_
        refine ge_seq_ret ?_
        obtain rfl := some_inj hr
        exact ge_result trivial (ResOk.tmp (by kernel_rfl) ResOk.nil) (Imm.trans (Imm.trans (Imm.trans (Imm.trans hI14 hI35) hI41) hI47) hI52) ⟨none, 0, [], OwnS.nil _ _ _ _, rfl, rfl⟩
      · have hb13 := cond_f hc53 hb13
        refine gk_skip (by kernel_rfl) ?_
        refine ge_seq ?_
        refine gk_seq (by kernel_rfl) ?_
        refine gk_region (by kernel_rfl) ?_
        refine gl_pure 1 [0, 4, 21] (K' := [(0, .pointer (some ⟨g0, 0, none⟩)), (4, .pointer (some ⟨g42, 0, none⟩)), (21, .slice A15 s11.2.2.2.length n16)]) (by kernel_rfl) ?_
        refine gl_loadB (T' := 50) (xp := (.tmp 4)) (v := .agg #[.string y37.1, .string y48.1]) (g := g42) (off := 0) (cs := #[.string y37.1, .string y48.1]) (e := 50) (fz := (0, 0)) (by kernel_rfl) (by kernel_rfl) (by kernel_rfl) (List.mem_cons_of_mem _ List.mem_cons_self) (by kernel_rfl) ?_
        refine gl_buildSlice (T' := 22) (e := 50) (n := 2) (len := 1) (parts := #[(0, (.tmp 22))]) (l := [(0, .agg #[.string y37.1, .string y48.1])]) (cs := #[.string y37.1, .string y48.1]) (by kernel_rfl) (by kernel_rfl) (by kernel_rfl) (by kernel_rfl) (by kernel_rfl) (fun g54 => ?_)
        have hO55 : OwnS kS49 50 I50 (some ⟨g54, 0, none⟩) 1 [(⟨y37.1, y48.1⟩ : S49)] [(g54, .cells #[.string y37.1, .string y48.1] 50)] := OwnS.lit (row_cons (l := [.string y37.1, .string y48.1]) (kS49_mk (x := (⟨y37.1, y48.1⟩ : S49)) ) (row_nil _ _)) rfl rfl rfl
        refine gl_reord (D := [(g54, .cells #[.string y37.1, .string y48.1] 50)] ++ ((g0, .cells #[.string y48.2.f0, .int .i64 y48.2.f1, .int .i64 y48.2.f2] T0) :: ((g42, .cells #[.string y37.1, .string y48.1] 50) :: (C17 ++ L)))) (Reord.refl _) ?_
        obtain ⟨zs58, hz59, hb13⟩ := bind_some hb13
        refine gl_append (xv := .slice (some ⟨g54, 0, none⟩) [(⟨y37.1, y48.1⟩ : S49)].length 1) (d := kS49) (t := 22) (tx := 22) (e := 50) (s := (.tmp 21)) (x := (.tmp 23)) (xs := s11.2.2.2) (fun X => [(g54, .cells #[.string y37.1, .string y48.1] 50)] ++ ((g0, .cells #[.string y48.2.f0, .int .i64 y48.2.f1, .int .i64 y48.2.f2] T0) :: ((g42, .cells #[.string y37.1, .string y48.1] 50) :: (X ++ L)))) hz59 (by kernel_rfl) (by kernel_rfl) (by kernel_rfl) (by kernel_rfl) (by kernel_rfl) (by kernel_rfl) (fun X => (Upd.app _ (Upd.one _ (Upd.one _ (Upd.head _ X _))))) (hO18.mono (Imm.trans (Imm.trans (Imm.trans hI35 hI41) hI47) hI52)) (SrcOk.slice (c := 1) (e := 50) (n := 2) (OwnS.rd hO55 (Upd.selfC _ _)) (by kernel_rfl)) (fun A60 n61 C62 hO63 => ?_)
        refine gl_pure 1 [0, 3] (K' := [(0, .pointer (some ⟨g0, 0, none⟩)), (3, .slice A60 zs58.length n61)]) (by kernel_rfl) ?_
        refine gl_atE (by kernel_rfl) ?_
        refine ge_seq ?_
        refine gk_seq (by kernel_rfl) ?_
        refine gk_region (by kernel_rfl) ?_
        refine gl_pure 1 [0, 3, 25] (K' := [(0, .pointer (some ⟨g0, 0, none⟩)), (3, .slice A60 zs58.length n61), (25, .pointer (some ⟨g0, 0, none⟩))]) (by kernel_rfl) ?_
        obtain ⟨y64, hx65, hb13⟩ := bind_some hb13
        refine gl_reord (D := (g0, .cells #[.string y48.2.f0, .int .i64 y48.2.f1, .int .i64 y48.2.f2] T0) :: ([(g54, .cells #[.string y37.1, .string y48.1] 50)] ++ ((g42, .cells #[.string y37.1, .string y48.1] 50) :: (C62 ++ L)))) (Reord.step1 (Upd.app _ (Upd.rm1 _ _)) (Reord.step (Upd.rmC _ _) (Reord.step1 (Upd.rm1 _ _) (Reord.step (Upd.rmC _ _) (Reord.refl _))))) ?_
        refine gl_call (by kernel_rfl) (labels_reader_next_walk (r := y64) (g0 := g0) (T0 := T0) (a0 := y48.2) hx65 _) ?_
        rintro v I66 L67 hI68 ⟨rfl, rfl⟩
        refine gl_pure 1 [0, 3, 27] (K' := [(0, .pointer (some ⟨g0, 0, none⟩)), (3, .slice A60 zs58.length n61), (27, .bool (!y64.1))]) (by kernel_rfl) ?_
        refine gl_atE (by kernel_rfl) ?_
        refine ge_seq ?_
        refine gk_cond (b := (!y64.1)) (by kernel_rfl) (by kernel_rfl) (fun hc69 => ?_) (fun hc69 => ?_)
        · have hb13 := cond_t hc69 hb13
          refine gk_seq (by kernel_rfl) ?_
          refine gk_region (by kernel_rfl) ?_
          refine gl_pure 1 [3, 28] (K' := [(3, .slice A60 zs58.length n61), (28, .pointer (some ⟨g0, 0, none⟩))]) (by kernel_rfl) ?_
          obtain ⟨y70, hx71, hb13⟩ := bind_some hb13
          refine gl_call (by kernel_rfl) (labels_reader_want_walk (r := y70) (g0 := g0) (T0 := T0) (a0 := y64.2) hx71 _) ?_
          rintro v I72 L73 hI74 ⟨rfl, rfl⟩
          refine gl_atE (by kernel_rfl) ?_
          refine ge_seq ?_
          refine gk_seq (by kernel_rfl) ?_
          refine gk_region (by kernel_rfl) ?_
          refine gl_pure 2 [2] (K' := [(2, .slice A60 zs58.length n61)]) (by kernel_rfl) ?_
          refine gl_atE (by kernel_rfl) ?_
          refine ge_seq ?_
          refine gk_reord (D := C62 ++ ((g0, .cells #[.string y70.f0, .int .i64 y70.f1, .int .i64 y70.f2] T0) :: L)) (Reord.step (Upd.one _ (Upd.app _ (Upd.one _ (Upd.rmC _ _)))) (Reord.step1 (Upd.rm1 _ _) (Reord.skipC (Reord.skip (Reord.refl _))))) ?_
          refine gk_ret (by kernel_rfl) ?_
          refine ge_block_ret ?_
          obtain rfl := some_inj hb13
          refine ge_round_out (fun hrr => ?_) (by intro h; cases h)
          obtain rfl := hrr
          refine ge_block_ret ?_
          refine ge_seq_ret ?_
          refine ge_seq_ret ?_
          obtain rfl := some_inj hr
          exact ge_result trivial (ResOk.tmp (by kernel_rfl) ResOk.nil) (Imm.trans (Imm.trans (Imm.trans (Imm.trans (Imm.trans (Imm.trans hI14 hI35) hI41) hI47) hI52) hI68) hI74) ⟨A60, n61, C62, (hO63.mono (Imm.trans hI68 hI74)), rfl, rfl⟩
        · have hb13 := cond_f hc69 hb13
          refine gk_reord (D := C62 ++ ((g0, .cells #[.string y64.2.f0, .int .i64 y64.2.f1, .int .i64 y64.2.f2] T0) :: L)) (Reord.step (Upd.one _ (Upd.app _ (Upd.one _ (Upd.rmC _ _)))) (Reord.step1 (Upd.rm1 _ _) (Reord.skipC (Reord.skip (Reord.refl _))))) ?_
          refine gk_skip (by kernel_rfl) ?_
          refine ge_block_normal ?_
          obtain rfl := some_inj hb13
          exact ge_round fun t ht => ⟨A60, n61, C62, (hO63.mono hI68), (Imm.trans (Imm.trans (Imm.trans (Imm.trans (Imm.trans hI14 hI35) hI41) hI47) hI52) hI68), rfl, ht.pick (l := [0, 3]) (by kernel_rfl)⟩
    · have hb13 := cond_f hc36 hb13
      refine gk_reord (D := C17 ++ ((g0, .cells #[.string y31.2.f0, .int .i64 y31.2.f1, .int .i64 y31.2.f2] T0) :: L)) (Reord.step (Upd.one _ (Upd.rmC _ _)) (Reord.step1 (Upd.rm1 _ _) (Reord.refl _))) ?_
      refine gk_exit (by kernel_rfl) ?_
      refine ge_seq_exit ?_
      obtain rfl := some_inj hb13
      refine ge_round_out (fun hrr => ?_) (by intro h; cases h)
      obtain rfl := hrr
      refine ge_block_hit (by kernel_rfl) ?_
      exact ge_mid fun t ht => ⟨_, rfl, A15, n16, C17, (hO18.mono hI35), (Imm.trans hI14 hI35), rfl, ht.pick (l := [3]) (by kernel_rfl)⟩
  · rintro t I28 L' ⟨r21, rfl, A23, n24, C25, hO26, hI22, rfl, hK27⟩
    refine ge_at hK27 ?_
    refine ge_seq ?_
    refine gk_seq (by kernel_rfl) ?_
    refine gk_region (by kernel_rfl) ?_
    refine gl_pure 2 [2] (K' := [(2, .slice A23 r21.1.length n24)]) (by kernel_rfl) ?_
    refine gl_atE (by kernel_rfl) ?_
    refine ge_seq ?_
    refine gk_ret (by kernel_rfl) ?_
    obtain rfl := some_inj hr
    exact ge_result trivial (ResOk.tmp (by kernel_rfl) ResOk.nil) hI22 ⟨A23, n24, C25, hO26, rfl, rfl⟩
/-! 94 labels_own  -/
noncomputable def labels_own (a0 : List S49) : Option (List S49) :=
  Option.bind (mkrow ((⟨(⟨#[]⟩ : ByteArray), (⟨#[]⟩ : ByteArray)⟩ : S49) : S49) (a0.length : Int) (a0.length : Int)) fun (xs1 : List S49) =>
  some (lcopy xs1 a0)
theorem labels_own_walk {a0 : List S49} {A0_0 : Option Addr} {n0_0 : Nat} {I : Imm} {r : (List S49)}  (hf0_0 : RepS kS49 I A0_0 n0_0 a0) (hr : labels_own a0 = some r) (L : Own) :
    CallsTo Tryz.prog 94 #[.slice A0_0 a0.length n0_0] I L (fun v I' L' => ∃ A0 c0 C0, OwnS kS49 50 I' A0 c0 r C0 ∧ v = .slice A0 r.length c0 ∧ C0 ++ L = L') := by
  unfold labels_own at hr
  refine callsTo_body (N := 11) Tryz.func94 (by kernel_rfl) (by kernel_rfl) (by kernel_rfl) ?_
  refine gk_pick [0] (K' := [(0, .slice A0_0 a0.length n0_0)]) (by kernel_rfl) ?_
  refine gk_seq (by kernel_rfl) ?_
  refine gk_region (by kernel_rfl) ?_
  refine gl_pure 1 [0] (K' := [(0, .slice A0_0 a0.length n0_0)]) (by kernel_rfl) ?_
  refine gl_atE (by kernel_rfl) ?_
  refine ge_seq ?_
  refine gk_seq (by kernel_rfl) ?_
  refine gk_region (by kernel_rfl) ?_
  refine gl_pure 2 [0, 5] (K' := [(0, .slice A0_0 a0.length n0_0), (5, .int .i64 (a0.length : Int))]) (by kernel_rfl) ?_
  obtain ⟨xs1, hx2, hr⟩ := bind_some hr
  refine gl_makeSlice (d := kS49) (T' := 22) (e := 50) (lx := (.tmp 5)) (cx := (.tmp 5)) (kl := .i64) (kc := .i64) (zc := #[.string (⟨#[]⟩ : ByteArray), .string (⟨#[]⟩ : ByteArray)]) hx2 (by kernel_rfl) (by kernel_rfl) (by kernel_rfl) (by kernel_rfl) (by kernel_rfl) (by kernel_rfl) (by kernel_rfl) (kS49_mk (x := (⟨(⟨#[]⟩ : ByteArray), (⟨#[]⟩ : ByteArray)⟩ : S49)) ) (fun A3 C4 hO5 => ?_)
  refine gl_pure 1 [0, 3] (K' := [(0, .slice A0_0 a0.length n0_0), (3, .slice A3 xs1.length ((a0.length : Int).toNat))]) (by kernel_rfl) ?_
  refine gl_atE (by kernel_rfl) ?_
  refine ge_seq ?_
  refine gk_seq (by kernel_rfl) ?_
  refine gk_region (by kernel_rfl) ?_
  refine gl_pure 2 [3, 7, 8] (K' := [(3, .slice A3 xs1.length ((a0.length : Int).toNat)), (7, .slice A3 xs1.length ((a0.length : Int).toNat)), (8, .slice A0_0 a0.length n0_0)]) (by kernel_rfl) ?_
  have hl8 : xs1.length = (lcopy xs1 a0).length := (lcopy_length _ _).symm
  refine gl_copyW (d := kS49) (tD := 22) (tS := 22) (e := 50) (e' := 50) (xs := xs1) (ys := a0) (c2 := n0_0) (dx := (.tmp 7)) (sx := (.tmp 8)) (fun X => X ++ L) (by kernel_rfl) (by kernel_rfl) (by kernel_rfl) (by kernel_rfl) (by kernel_rfl) hO5 (fun X => (Upd.head _ X _)) (RepS.rd hf0_0 _) (fun C6 hO7 => ?_)
  try rw [hl8]
  refine gl_atE (by kernel_rfl) ?_
  refine ge_seq ?_
  refine gk_seq (by kernel_rfl) ?_
  refine gk_region (by kernel_rfl) ?_
  refine gl_pure 2 [2] (K' := [(2, .slice A3 (lcopy xs1 a0).length ((a0.length : Int).toNat))]) (by kernel_rfl) ?_
  refine gl_atE (by kernel_rfl) ?_
  refine ge_seq ?_
  refine gk_ret (by kernel_rfl) ?_
  obtain rfl := some_inj hr
  exact ge_result trivial (ResOk.tmp (by kernel_rfl) ResOk.nil) (Imm.refl _) ⟨A3, ((a0.length : Int).toNat), C6, hO7, rfl, rfl⟩
/-! 119 bytealg_CompareString  -/
noncomputable def bytealg_CompareString (a0 : ByteArray) (a1 : ByteArray) : Int :=
  (Lib.compareBytes a0.data.toList a1.data.toList)
theorem bytealg_CompareString_walk {a0 : ByteArray} {a1 : ByteArray} {I : Imm} {r : Int}  (hr : bytealg_CompareString a0 a1 = r) (L : Own) :
    CallsTo Tryz.prog 119 #[.string a0, .string a1] I L (fun v I' L' => v = .int .i64 r ∧ L = L') := by
  replace hr : some (bytealg_CompareString a0 a1) = some r := congrArg some hr
  unfold bytealg_CompareString at hr
  refine callsTo_body (N := 8) Tryz.func119 (by kernel_rfl) (by kernel_rfl) (by kernel_rfl) ?_
  refine gk_pick [0, 1] (K' := [(0, .string a0), (1, .string a1)]) (by kernel_rfl) ?_
  refine gk_seq (by kernel_rfl) ?_
  refine gk_region (by kernel_rfl) ?_
  refine gl_pure 1 [0, 1] (K' := [(0, .string a0), (1, .string a1)]) (by kernel_rfl) ?_
  refine gl_atE (by kernel_rfl) ?_
  refine ge_seq ?_
  refine gk_seq (by kernel_rfl) ?_
  refine gk_region (by kernel_rfl) ?_
  refine gl_pure 2 [5, 6] (K' := [(5, .string a0), (6, .string a1)]) (by kernel_rfl) ?_
  refine gl_cmpstring (a := a0) (b := a1) Tryz.func136 (by kernel_rfl) (by kernel_rfl) (by kernel_rfl) (by kernel_rfl) (by kernel_rfl) (by kernel_rfl) ?_
  refine gl_pure 1 [4] (K' := [(4, .int .i64 (Lib.compareBytes a0.data.toList a1.data.toList))]) (by kernel_rfl) ?_
  refine gl_atE (by kernel_rfl) ?_
  refine ge_seq ?_
  refine gk_ret (by kernel_rfl) ?_
  obtain rfl := some_inj hr
  exact ge_result trivial (ResOk.tmp (by kernel_rfl) ResOk.nil) (Imm.refl _) ⟨rfl, rfl⟩
/-! 83 strings_Compare  -/
noncomputable def strings_Compare (a0 : ByteArray) (a1 : ByteArray) : Int :=
  (bytealg_CompareString a0 a1)
theorem strings_Compare_walk {a0 : ByteArray} {a1 : ByteArray} {I : Imm} {r : Int}  (hr : strings_Compare a0 a1 = r) (L : Own) :
    CallsTo Tryz.prog 83 #[.string a0, .string a1] I L (fun v I' L' => v = .int .i64 r ∧ L = L') := by
  replace hr : some (strings_Compare a0 a1) = some r := congrArg some hr
  unfold strings_Compare at hr
  refine callsTo_body (N := 8) Tryz.func83 (by kernel_rfl) (by kernel_rfl) (by kernel_rfl) ?_
  refine gk_pick [0, 1] (K' := [(0, .string a0), (1, .string a1)]) (by kernel_rfl) ?_
  refine gk_seq (by kernel_rfl) ?_
  refine gk_region (by kernel_rfl) ?_
  refine gl_pure 1 [0, 1] (K' := [(0, .string a0), (1, .string a1)]) (by kernel_rfl) ?_
  refine gl_atE (by kernel_rfl) ?_
  refine ge_seq ?_
  refine gk_seq (by kernel_rfl) ?_
  refine gk_region (by kernel_rfl) ?_
  refine gl_pure 2 [5, 6] (K' := [(5, .string a0), (6, .string a1)]) (by kernel_rfl) ?_
  refine gl_callQ (by kernel_rfl) (bytealg_CompareString_walk (r := (bytealg_CompareString a0 a1))  rfl _) ?_
  refine gl_pure 1 [4] (K' := [(4, .int .i64 (bytealg_CompareString a0 a1))]) (by kernel_rfl) ?_
  refine gl_atE (by kernel_rfl) ?_
  refine ge_seq ?_
  refine gk_ret (by kernel_rfl) ?_
  obtain rfl := some_inj hr
  exact ge_result trivial (ResOk.tmp (by kernel_rfl) ResOk.nil) (Imm.refl _) ⟨rfl, rfl⟩
/-! 116 labels_sorted_1  -/
noncomputable def labels_sorted_1 (a0 : S49) (a1 : S49) : Int :=
  (strings_Compare a0.f0 a1.f0)
theorem labels_sorted_1_walk {a0 : S49} {a1 : S49} {I : Imm} {r : Int}  (hr : labels_sorted_1 a0 a1 = r) (L : Own) :
    CallsTo Tryz.prog 116 #[.agg #[.string a0.f0, .string a0.f1], .agg #[.string a1.f0, .string a1.f1]] I L (fun v I' L' => v = .int .i64 r ∧ L = L') := by
  replace hr : some (labels_sorted_1 a0 a1) = some r := congrArg some hr
  unfold labels_sorted_1 at hr
  refine callsTo_body (N := 10) Tryz.func116 (by kernel_rfl) (by kernel_rfl) (by kernel_rfl) ?_
  refine gk_pick [0, 1] (K' := [(0, .agg #[.string a0.f0, .string a0.f1]), (1, .agg #[.string a1.f0, .string a1.f1])]) (by kernel_rfl) ?_
  refine gk_seq (by kernel_rfl) ?_
  refine gk_region (by kernel_rfl) ?_
  refine gl_box (T' := 50) (x := (.tmp 0)) (v := .agg #[.string a0.f0, .string a0.f1]) (cs := #[.string a0.f0, .string a0.f1]) (by kernel_rfl) (by kernel_rfl) (by kernel_rfl) (by kernel_rfl) (fun g1 => ?_)
  refine gl_box (T' := 50) (x := (.tmp 1)) (v := .agg #[.string a1.f0, .string a1.f1]) (cs := #[.string a1.f0, .string a1.f1]) (by kernel_rfl) (by kernel_rfl) (by kernel_rfl) (by kernel_rfl) (fun g2 => ?_)
  refine gl_pure 1 [2, 3] (K' := [(2, .pointer (some ⟨g1, 0, none⟩)), (3, .pointer (some ⟨g2, 0, none⟩))]) (by kernel_rfl) ?_
  refine gl_atE (by kernel_rfl) ?_
  refine ge_seq ?_
  refine gk_seq (by kernel_rfl) ?_
  refine gk_region (by kernel_rfl) ?_
  refine gl_pure 1 [3, 5] (K' := [(3, .pointer (some ⟨g2, 0, none⟩)), (5, .pointer (some ⟨g1, 0, none⟩))]) (by kernel_rfl) ?_
  refine gl_loadB (T' := 9) (xp := (.tmp 5)) (v := .string a0.f0) (g := g1) (off := 0) (cs := #[.string a0.f0, .string a0.f1]) (e := 50) (fz := (0, 0)) (by kernel_rfl) (by kernel_rfl) (by kernel_rfl) (List.mem_cons_of_mem _ List.mem_cons_self) (by kernel_rfl) ?_
  refine gl_pure 1 [6, 7] (K' := [(6, .string a0.f0), (7, .pointer (some ⟨g2, 0, none⟩))]) (by kernel_rfl) ?_
  refine gl_loadB (T' := 9) (xp := (.tmp 7)) (v := .string a1.f0) (g := g2) (off := 0) (cs := #[.string a1.f0, .string a1.f1]) (e := 50) (fz := (0, 0)) (by kernel_rfl) (by kernel_rfl) (by kernel_rfl) List.mem_cons_self (by kernel_rfl) ?_
  refine gl_callQ (by kernel_rfl) (strings_Compare_walk (r := (strings_Compare a0.f0 a1.f0))  rfl _) ?_
  refine gl_pure 1 [4] (K' := [(4, .int .i64 (strings_Compare a0.f0 a1.f0))]) (by kernel_rfl) ?_
  refine gl_atE (by kernel_rfl) ?_
  refine ge_seq ?_
  refine gk_reord (D := L) (Reord.skip (Reord.skip (Reord.refl _))) ?_
  refine gk_ret (by kernel_rfl) ?_
  obtain rfl := some_inj hr
  exact ge_result trivial (ResOk.tmp (by kernel_rfl) ResOk.nil) (Imm.refl _) ⟨rfl, rfl⟩
end Go.Proofs.YtnlkfajnaelnnaaGreatDoor
