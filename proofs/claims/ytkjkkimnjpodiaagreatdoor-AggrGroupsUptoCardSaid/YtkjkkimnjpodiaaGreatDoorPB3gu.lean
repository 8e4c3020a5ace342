/- Plain laws: label sets compared. -/
import Derived.Test.YtkjkkimnjpodiaaGreatDoorW4du
import Derived.Test.YtkjkkimnjpodiaaGreatDoorGB35u
import Derived.Test.YtkjkkimnjpodiaaGreatDoorRows
import Derived.Deep.Slices
import Derived.Below
import Derived.Lib.ValidLaws
import Derived.Lib.Bytealg
set_option linter.unusedVariables false
set_option linter.unusedSimpArgs false
set_option maxRecDepth 100000
namespace Go.Proofs.YtkjkkimnjpodiaaGreatDoor
open Go.GB
noncomputable def tocsinlaw16_AggrGroups_l113 (a1 : List ByteArray) (a2 : Bool) (y10 : (List S61) × Int) (s31 : Int × Int) (x85 : List S38) : Int → Option ((Int) ⊕ ((Unit) ⊕ ((Int × Int) ⊕ ((Int) ⊕ (Bool))))) := fun s103 =>
  bif (decide (s103 < (x85.length : Int))) then
  (Option.bind (ix x85 s103) fun (x116 : S38) =>
    Option.bind (aggr_Group x116.f0 a1 a2) fun (y130 : (List S76) × Int) =>
    Option.bind (bif (y130.2 != 0) then
      (some true)
      else
      (Option.bind (ix y10.1 s31.2) fun (x145 : S61) =>
        Option.bind (tocsinref04_Same y130.1 x145.f0) fun (y159 : Bool) =>
        some (!y159))) fun (j139 : Bool) =>
    bif j139 then
    (some (Sum.inr (Sum.inr (Sum.inr (Sum.inr false)))))
    else
    (some (Sum.inl (IntKind.wrap .i64 (s103 + 1)))))
  else
  (some (Sum.inr (Sum.inl ())))
noncomputable def tocsinlaw16_AggrGroups_l41 (a1 : List ByteArray) (a2 : Bool) (y1 : (List (List S38)) × Int) (y10 : (List S61) × Int) : (Int × Int) → Option ((Int × Int) ⊕ ((Int) ⊕ (Bool))) := fun s31 =>
  bif (decide (s31.2 < (y1.1.length : Int))) then
  (Option.bind (ix y1.1 s31.2) fun (x44 : List S38) =>
    Option.bind (ix y10.1 s31.2) fun (x56 : S61) =>
    Option.bind (tocsinref11_SamePoints x44 x56.f1) fun (y70 : Bool) =>
    bif (!y70) then
    (some (Sum.inr (Sum.inr false)))
    else
    (Option.bind (ix y1.1 s31.2) fun (x73 : List S38) =>
      Option.bind (ix y1.1 s31.2) fun (x85 : List S38) =>
      Option.bind (loopO (tocsinlaw16_AggrGroups_l113 a1 a2 y10 s31 x85) 0) fun (r101 : (Unit) ⊕ ((Int × Int) ⊕ ((Int) ⊕ (Bool)))) =>
      match r101 with
      | Sum.inl r109 => some (Sum.inl ((IntKind.wrap .i64 (s31.1 + (x73.length : Int))), (IntKind.wrap .i64 (s31.2 + 1))))
      | Sum.inr v162 => some v162))
  else
  (some (Sum.inr (Sum.inl s31.1)))
noncomputable def tocsinlaw16_AggrGroups (a0 : List S38) (a1 : List ByteArray) (a2 : Bool) : Option Bool :=
  Option.bind (aggr_Groups a0 a1 a2) fun (y1 : (List (List S38)) × Int) =>
  Option.bind (tocsinref16_Groups a0 a1 a2) fun (y10 : (List S61) × Int) =>
  bif (((y1.1.length : Int) != (y10.1.length : Int)) || (y1.2 != y10.2)) then
  (some false)
  else
  (Option.bind (loopO (tocsinlaw16_AggrGroups_l41 a1 a2 y1 y10) (0, 0)) fun (r29 : (Int) ⊕ (Bool)) =>
    match r29 with
    | Sum.inl r37 => Option.bind (bif (y1.2 != 0) then
        (Option.bind tocsinlaw16_awake fun (y169 : Bool) =>
          some y169)
        else
        (bif (r37 == (a0.length : Int)) then
          (Option.bind tocsinlaw16_awake fun (y172 : Bool) =>
            some y172)
          else
          (some false))) fun (j163 : Bool) =>
      some j163
    | Sum.inr v174 => some v174)
theorem tocsinlaw16_AggrGroups_walk {a0 : List S38} {A0_0 : Option Addr} {n0_0 : Nat} {a1 : List ByteArray} {A1_0 : Option Addr} {n1_0 : Nat} {a2 : Bool} {I : Imm} {r : Bool} (hG : Gl I)  (hf0_0 : RepS kS38 I A0_0 n0_0 a0)  (hf1_0 : RepS Kd.str I A1_0 n1_0 a1) (hr : tocsinlaw16_AggrGroups a0 a1 a2 = some r) (L : Own) :
    CallsTo Tryz.prog 10 #[.slice A0_0 a0.length n0_0, .slice A1_0 a1.length n1_0, .bool a2] I L (fun v I' L' => v = .bool r ∧ L = L') := by
  unfold tocsinlaw16_AggrGroups at hr
  refine callsTo_body (N := 106) Tryz.func10 (by kernel_rfl) (by kernel_rfl) (by kernel_rfl) ?_
  refine gk_pick [0, 1, 2] (K' := [(0, .slice A0_0 a0.length n0_0), (1, .slice A1_0 a1.length n1_0), (2, .bool a2)]) (by kernel_rfl) ?_
  refine gk_seq (by kernel_rfl) ?_
  refine gk_region (by kernel_rfl) ?_
  refine gl_pure 1 [0, 1, 2] (K' := [(0, .slice A0_0 a0.length n0_0), (1, .slice A1_0 a1.length n1_0), (2, .bool a2)]) (by kernel_rfl) ?_
  refine gl_atE (by kernel_rfl) ?_
  refine ge_seq ?_
  refine gk_seq (by kernel_rfl) ?_
  refine gk_region (by kernel_rfl) ?_
  refine gl_pure 3 [0, 1, 2, 18, 19, 20] (K' := [(0, .slice A0_0 a0.length n0_0), (1, .slice A1_0 a1.length n1_0), (2, .bool a2), (18, .slice A0_0 a0.length n0_0), (19, .slice A1_0 a1.length n1_0), (20, .bool a2)]) (by kernel_rfl) ?_
  obtain ⟨y1, hx2, hr⟩ := bind_some hr
  refine gl_call (by kernel_rfl) (aggr_Groups_walk (r := y1) hG hf0_0 hf1_0 hx2 _) ?_
  rintro v I3 L4 hI5 ⟨A6, c7, C8, hO9, rfl, rfl⟩
  refine gl_pure 5 [0, 1, 2, 7, 8] (K' := [(0, .slice A0_0 a0.length n0_0), (1, .slice A1_0 a1.length n1_0), (2, .bool a2), (7, .slice A6 y1.1.length c7), (8, .int .i64 y1.2)]) (by kernel_rfl) ?_
  refine gl_atE (by kernel_rfl) ?_
  refine ge_seq ?_
  refine gk_seq (by kernel_rfl) ?_
  refine gk_region (by kernel_rfl) ?_
  refine gl_pure 3 [0, 1, 2, 7, 8, 25, 26, 27] (K' := [(0, .slice A0_0 a0.length n0_0), (1, .slice A1_0 a1.length n1_0), (2, .bool a2), (7, .slice A6 y1.1.length c7), (8, .int .i64 y1.2), (25, .slice A0_0 a0.length n0_0), (26, .slice A1_0 a1.length n1_0), (27, .bool a2)]) (by kernel_rfl) ?_
  obtain ⟨y10, hx11, hr⟩ := bind_some hr
  refine gl_call (by kernel_rfl) (tocsinref16_Groups_walk (r := y10) (hf0_0.mono hI5) (hf1_0.mono hI5) hx11 _) ?_
  rintro v I12 L13 hI14 ⟨A15, c16, hf17, rfl, rfl⟩
  refine gl_pure 5 [0, 1, 2, 7, 8, 9, 10] (K' := [(0, .slice A0_0 a0.length n0_0), (1, .slice A1_0 a1.length n1_0), (2, .bool a2), (7, .slice A6 y1.1.length c7), (8, .int .i64 y1.2), (9, .slice A15 y10.1.length c16), (10, .int .i64 y10.2)]) (by kernel_rfl) ?_
  refine gl_atE (by kernel_rfl) ?_
  refine ge_seq ?_
  refine gk_seq (by kernel_rfl) ?_
  refine gk_seq (by kernel_rfl) ?_
  obtain ⟨b20, hb21⟩ : ∃ z, z = (((y1.1.length : Int) != (y10.1.length : Int)) || (y1.2 != y10.2)) := ⟨_, rfl⟩
  refine gk_join (fun t I' L' => I12 ≤ I' ∧ C8 ++ L = L' ∧ Knows 106 [(0, .slice A0_0 a0.length n0_0), (1, .slice A1_0 a1.length n1_0), (2, .bool a2), (7, .slice A6 y1.1.length c7), (8, .int .i64 y1.2), (9, .slice A15 y10.1.length c16), (40, .bool b20)] t) ?_ ?_
  · refine gk_region (by kernel_rfl) ?_
    refine gl_pure 6 [0, 1, 2, 7, 8, 9, 10, 36] (K' := [(0, .slice A0_0 a0.length n0_0), (1, .slice A1_0 a1.length n1_0), (2, .bool a2), (7, .slice A6 y1.1.length c7), (8, .int .i64 y1.2), (9, .slice A15 y10.1.length c16), (10, .int .i64 y10.2), (36, .bool ((y1.1.length : Int) != (y10.1.length : Int)))]) (by kernel_rfl) ?_
    refine gl_case 36 (b := ((y1.1.length : Int) != (y10.1.length : Int))) (by kernel_rfl) (fun hc23 => ?_) (fun hc23 => ?_)
    · refine gl_pure 4 [0, 1, 2, 7, 8, 9, 40] (K' := [(0, .slice A0_0 a0.length n0_0), (1, .slice A1_0 a1.length n1_0), (2, .bool a2), (7, .slice A6 y1.1.length c7), (8, .int .i64 y1.2), (9, .slice A15 y10.1.length c16), (40, .bool true)]) (by kernel_rfl) ?_
      refine gl_atE (by kernel_rfl) ?_
      exact ge_mid fun t ht => ⟨(Imm.refl _), rfl, by rw [(show b20 = true from hb21.trans (by first | (rw [hc23]; done) | (rw [hc23]; rfl) | (simp [hc23]; done) | (simp only [hc23]; rfl) | (simp at *; omega)))]; exact ht.pick (l := [0, 1, 2, 7, 8, 9, 40]) (by kernel_rfl)⟩
    · refine gl_pure 4 [0, 1, 2, 7, 8, 9, 40] (K' := [(0, .slice A0_0 a0.length n0_0), (1, .slice A1_0 a1.length n1_0), (2, .bool a2), (7, .slice A6 y1.1.length c7), (8, .int .i64 y1.2), (9, .slice A15 y10.1.length c16), (40, .bool (y1.2 != y10.2))]) (by kernel_rfl) ?_
      refine gl_atE (by kernel_rfl) ?_
      exact ge_mid fun t ht => ⟨(Imm.refl _), rfl, by rw [(show b20 = (y1.2 != y10.2) from hb21.trans (by first | (rw [hc23]; done) | (rw [hc23]; rfl) | (simp [hc23]; done) | (simp only [hc23]; rfl) | (simp at *; omega)))]; exact ht.pick (l := [0, 1, 2, 7, 8, 9, 40]) (by kernel_rfl)⟩
  · rintro t I22 L' ⟨hI18, rfl, hK19⟩
    subst hb21
    refine ge_at hK19 ?_
    refine ge_seq ?_
    refine gk_cond (b := (((y1.1.length : Int) != (y10.1.length : Int)) || (y1.2 != y10.2))) (by kernel_rfl) (by kernel_rfl) (fun hc24 => ?_) (fun hc24 => ?_)
    · have hr := cond_t hc24 hr
      refine gk_seq (by kernel_rfl) ?_
      refine gk_region (by kernel_rfl) ?_
      refine gl_pure 1 [6] (K' := [(6, .bool false)]) (by kernel_rfl) ?_
      refine gl_atE (by kernel_rfl) ?_
      refine ge_seq ?_
      refine gk_reord (D := L) (Reord.skipC (Reord.refl _)) ?_
      refine gk_ret (by kernel_rfl) ?_
      refine ge_seq_ret ?_
      obtain rfl := some_inj hr
      exact ge_result trivial (ResOk.tmp (by kernel_rfl) ResOk.nil) (Imm.trans (Imm.trans hI5 hI14) hI18) ⟨rfl, rfl⟩
    · have hr := cond_f hc24 hr
      refine gk_skip (by kernel_rfl) ?_
      refine ge_seq ?_
      refine gk_seq (by kernel_rfl) ?_
      refine gk_region (by kernel_rfl) ?_
      refine gl_pure 1 [0, 1, 2, 7, 8, 9, 11] (K' := [(0, .slice A0_0 a0.length n0_0), (1, .slice A1_0 a1.length n1_0), (2, .bool a2), (7, .slice A6 y1.1.length c7), (8, .int .i64 y1.2), (9, .slice A15 y10.1.length c16), (11, .int .i64 0)]) (by kernel_rfl) ?_
      refine gl_atE (by kernel_rfl) ?_
      refine ge_seq ?_
      refine gk_seq (by kernel_rfl) ?_
      refine gk_seq (by kernel_rfl) ?_
      refine gk_region (by kernel_rfl) ?_
      refine gl_pure 3 [0, 1, 2, 7, 8, 9, 11, 42, 43] (K' := [(0, .slice A0_0 a0.length n0_0), (1, .slice A1_0 a1.length n1_0), (2, .bool a2), (7, .slice A6 y1.1.length c7), (8, .int .i64 y1.2), (9, .slice A15 y10.1.length c16), (11, .int .i64 0), (42, .int .i64 (y1.1.length : Int)), (43, .int .i64 0)]) (by kernel_rfl) ?_
      refine gl_atE (by kernel_rfl) ?_
      refine ge_seq ?_
      obtain ⟨r29, hl30, hr⟩ := bind_some hr
      refine gk_join (fun t I' L' => ∃ r37, r29 = Sum.inl r37 ∧ I22 ≤ I' ∧ L = L' ∧ Knows 106 [(0, .slice A0_0 a0.length n0_0), (8, .int .i64 y1.2), (11, .int .i64 r37)] t) ?_ ?_
      · refine gk_block (by kernel_rfl) ?_
        refine gk_pick [0, 1, 2, 7, 8, 9, 11, 42, 43] (K' := [(0, .slice A0_0 a0.length n0_0), (1, .slice A1_0 a1.length n1_0), (2, .bool a2), (7, .slice A6 y1.1.length c7), (8, .int .i64 y1.2), (9, .slice A15 y10.1.length c16), (11, .int .i64 0), (42, .int .i64 (y1.1.length : Int)), (43, .int .i64 0)]) (by kernel_rfl) ?_
        intro t hK
        refine gc_loop (tocsinlaw16_AggrGroups_l41 a1 a2 y1 y10) (fun s31 t I' L' => I22 ≤ I' ∧ C8 ++ L = L' ∧ Knows 106 [(0, .slice A0_0 a0.length n0_0), (1, .slice A1_0 a1.length n1_0), (2, .bool a2), (7, .slice A6 y1.1.length c7), (8, .int .i64 y1.2), (9, .slice A15 y10.1.length c16), (11, .int .i64 s31.1), (42, .int .i64 (y1.1.length : Int)), (43, .int .i64 s31.2)] t) (by kernel_rfl) ?_ hl30 ⟨(Imm.refl _), rfl, hK⟩
        rintro s31 o32 t I36 L' hb33 ⟨hI34, rfl, hK35⟩
        unfold tocsinlaw16_AggrGroups_l41 at hb33
        refine gk_at hK35 ?_
        refine gk_seq (by kernel_rfl) ?_
        refine gk_region (by kernel_rfl) ?_
        refine gl_pure 1 [0, 1, 2, 7, 8, 9, 11, 42, 43, 44] (K' := [(0, .slice A0_0 a0.length n0_0), (1, .slice A1_0 a1.length n1_0), (2, .bool a2), (7, .slice A6 y1.1.length c7), (8, .int .i64 y1.2), (9, .slice A15 y10.1.length c16), (11, .int .i64 s31.1), (42, .int .i64 (y1.1.length : Int)), (43, .int .i64 s31.2), (44, .bool (decide (s31.2 < (y1.1.length : Int))))]) (by kernel_rfl) ?_
        refine gl_atE (by kernel_rfl) ?_
        refine ge_seq ?_
        refine gk_seq (by kernel_rfl) ?_
        refine gk_cond (b := (decide (s31.2 < (y1.1.length : Int)))) (by kernel_rfl) (by kernel_rfl) (fun hc43 => ?_) (fun hc43 => ?_)
        · have hb33 := cond_t hc43 hb33
          refine gk_skip (by kernel_rfl) ?_
          refine ge_seq ?_
          refine gk_seq (by kernel_rfl) ?_
          refine gk_block (by kernel_rfl) ?_
          refine gk_seq (by kernel_rfl) ?_
          refine gk_region (by kernel_rfl) ?_
          refine gl_pure 2 [0, 1, 2, 7, 8, 9, 11, 12, 42, 43] (K' := [(0, .slice A0_0 a0.length n0_0), (1, .slice A1_0 a1.length n1_0), (2, .bool a2), (7, .slice A6 y1.1.length c7), (8, .int .i64 y1.2), (9, .slice A15 y10.1.length c16), (11, .int .i64 s31.1), (12, .int .i64 s31.2), (42, .int .i64 (y1.1.length : Int)), (43, .int .i64 s31.2)]) (by kernel_rfl) ?_
          refine gl_atE (by kernel_rfl) ?_
          refine ge_seq ?_
          refine gk_seq (by kernel_rfl) ?_
          refine gk_seq (by kernel_rfl) ?_
          refine gk_draw 9 [(0, true), (1, true), (2, true), (3, true), (4, true), (5, true), (6, true), (7, true), (8, true)] (C8 ++ []) (List.forall_mem_append.2 ⟨fun q hq => (List.mem_append_left _ hq), (fun p hp => by cases hp)⟩) (by kernel_rfl) (by kernel_rfl) (by kernel_rfl) ?_ (by kernel_rfl)
          refine gd_pure 2 [0, 1, 2, 7, 8, 9, 11, 12, 42, 43, 46, 47] (K' := [(0, .slice A0_0 a0.length n0_0), (1, .slice A1_0 a1.length n1_0), (2, .bool a2), (7, .slice A6 y1.1.length c7), (8, .int .i64 y1.2), (9, .slice A15 y10.1.length c16), (11, .int .i64 s31.1), (12, .int .i64 s31.2), (42, .int .i64 (y1.1.length : Int)), (43, .int .i64 s31.2), (46, .slice A6 y1.1.length c7), (47, .int .i64 s31.2)]) (s' := [(2, true), (3, true), (4, true), (5, true), (6, true), (7, true), (8, true)]) (CC.refl (List.forall_mem_append.2 ⟨fun q hq => (List.mem_append_left _ hq), (fun p hp => by cases hp)⟩)) (by kernel_rfl) ?_
          obtain ⟨x44, hx45, hb33⟩ := bind_some hb33
          obtain ⟨p46, cs47, hR48, hA49, ha50, hg55⟩ := OwnS.ixAtG hx45 (hO9.mono (Imm.trans (Imm.trans hI14 hI18) hI34))
          have hi51 := ix_some hx45
          obtain ⟨A52, n53, rfl, hf54⟩ := sl_open hR48
          refine gd_q (v := .pointer (some p46)) (by kernel_rfl) (by kernel_rfl) (CC.refl (List.forall_mem_append.2 ⟨fun q hq => (List.mem_append_left _ hq), (fun p hp => by cases hp)⟩)) (fun I' L' T hC kk => gl_indexAddrF (c := c7) (T' := 48) (e := 22) (xs := (.tmp 46)) (xi := (.tmp 47)) (kd := .i64) ha50 hi51.1 hi51.2.1 (by kernel_rfl) (by kernel_rfl) (by kernel_rfl) (by kernel_rfl) (by kernel_rfl) kk) ?_
          refine gd_q (v := .slice A52 x44.length n53) (by kernel_rfl) (by kernel_rfl) (CC.refl (List.forall_mem_append.2 ⟨fun q hq => (List.mem_append_left _ hq), (fun p hp => by cases hp)⟩)) (fun I' L' T hC kk => gl_loadO (T' := 22) (xp := (.tmp 48)) (p := p46) (c := .slice A52 x44.length n53) (n := 1) (by kernel_rfl) (by kernel_rfl) (by kernel_rfl) (by kernel_rfl) (hA49 _ _ (fun q hq => hC.sub _ (List.mem_append_left _ hq))) kk) ?_
          refine gd_pure 2 [0, 1, 2, 7, 8, 9, 11, 12, 42, 43, 49, 50, 51] (K' := [(0, .slice A0_0 a0.length n0_0), (1, .slice A1_0 a1.length n1_0), (2, .bool a2), (7, .slice A6 y1.1.length c7), (8, .int .i64 y1.2), (9, .slice A15 y10.1.length c16), (11, .int .i64 s31.1), (12, .int .i64 s31.2), (42, .int .i64 (y1.1.length : Int)), (43, .int .i64 s31.2), (49, .slice A52 x44.length n53), (50, .slice A15 y10.1.length c16), (51, .int .i64 s31.2)]) (s' := [(6, true), (7, true), (8, true)]) (CC.refl (List.forall_mem_append.2 ⟨fun q hq => (List.mem_append_left _ hq), (fun p hp => by cases hp)⟩)) (by kernel_rfl) ?_
          obtain ⟨x56, hx57, hb33⟩ := bind_some hb33
          obtain ⟨p58, cs59, hR60, hA61, ha62⟩ := RepS.ixAt hx57 (hf17.mono (Imm.trans hI18 hI34))
          have hi63 := ix_some hx57
          obtain ⟨A64, n65, A67, n68, hf66, hf69, rfl⟩ := kS61_open hR60
          refine gd_q (v := .pointer (some p58)) (by kernel_rfl) (by kernel_rfl) (CC.refl (List.forall_mem_append.2 ⟨fun q hq => (List.mem_append_left _ hq), (fun p hp => by cases hp)⟩)) (fun I' L' T hC kk => gl_indexAddrF (c := c16) (T' := 58) (e := 62) (xs := (.tmp 50)) (xi := (.tmp 51)) (kd := .i64) ha62 hi63.1 hi63.2.1 (by kernel_rfl) (by kernel_rfl) (by kernel_rfl) (by kernel_rfl) (by kernel_rfl) kk) ?_
          refine gd_pure 1 [0, 1, 2, 7, 8, 9, 11, 12, 42, 43, 49, 53] (K' := [(0, .slice A0_0 a0.length n0_0), (1, .slice A1_0 a1.length n1_0), (2, .bool a2), (7, .slice A6 y1.1.length c7), (8, .int .i64 y1.2), (9, .slice A15 y10.1.length c16), (11, .int .i64 s31.1), (12, .int .i64 s31.2), (42, .int .i64 (y1.1.length : Int)), (43, .int .i64 s31.2), (49, .slice A52 x44.length n53), (53, .pointer (some (p58.add 1)))]) (s' := [(8, true)]) (CC.refl (List.forall_mem_append.2 ⟨fun q hq => (List.mem_append_left _ hq), (fun p hp => by cases hp)⟩)) (by kernel_rfl) ?_
          refine gd_q (v := .slice A67 x56.f1.length n68) (by kernel_rfl) (by kernel_rfl) (CC.refl (List.forall_mem_append.2 ⟨fun q hq => (List.mem_append_left _ hq), (fun p hp => by cases hp)⟩)) (fun I' L' T hC kk => gl_load (T' := 22) (xp := (.tmp 53)) (p := (p58.add 1)) (c := .slice A67 x56.f1.length n68) (n := 1) (by kernel_rfl) (by kernel_rfl) (by kernel_rfl) (by kernel_rfl) ((hA61.drop 1).mono hC.le) kk) ?_
          refine gd_done ?_
          obtain ⟨y70, hx71, hb33⟩ := bind_some hb33
          refine gl_callQ (by kernel_rfl) (tocsinref11_SamePoints_walk (r := y70) hf54 hf69 hx71 _) ?_
          refine gl_pure 1 [0, 1, 2, 7, 8, 9, 11, 12, 42, 43, 56] (K' := [(0, .slice A0_0 a0.length n0_0), (1, .slice A1_0 a1.length n1_0), (2, .bool a2), (7, .slice A6 y1.1.length c7), (8, .int .i64 y1.2), (9, .slice A15 y10.1.length c16), (11, .int .i64 s31.1), (12, .int .i64 s31.2), (42, .int .i64 (y1.1.length : Int)), (43, .int .i64 s31.2), (56, .bool (!y70))]) (by kernel_rfl) ?_
          refine gl_atE (by kernel_rfl) ?_
          refine ge_seq ?_
          refine gk_cond (b := (!y70)) (by kernel_rfl) (by kernel_rfl) (fun hc72 => ?_) (fun hc72 => ?_)
          · have hb33 := cond_t hc72 hb33
            refine gk_seq (by kernel_rfl) ?_
            refine gk_region (by kernel_rfl) ?_
            refine gl_pure 1 [6] (K' := [(6, .bool false)]) (by kernel_rfl) ?_
            refine gl_atE (by kernel_rfl) ?_
            refine ge_seq ?_
            refine gk_reord (D := L) (Reord.skipC (Reord.refl _)) ?_
            refine gk_ret (by kernel_rfl) ?_
            refine ge_seq_ret ?_
            refine ge_block_ret ?_
            refine ge_seq_ret ?_
            obtain rfl := some_inj hb33
            refine ge_round_out (fun hrr => ?_) (by intro h; cases h)
            obtain rfl := hrr
            refine ge_block_ret ?_
            refine ge_seq_ret ?_
            refine ge_seq_ret ?_
            obtain rfl := some_inj hr
            exact ge_result trivial (ResOk.tmp (by kernel_rfl) ResOk.nil) (Imm.trans (Imm.trans (Imm.trans hI5 hI14) hI18) hI34) ⟨rfl, rfl⟩
          · have hb33 := cond_f hc72 hb33
            refine gk_skip (by kernel_rfl) ?_
            refine ge_seq ?_
            refine gk_seq (by kernel_rfl) ?_
            refine gk_region (by kernel_rfl) ?_
            refine gl_pure 3 [0, 1, 2, 7, 8, 9, 12, 42, 43, 57, 58, 59] (K' := [(0, .slice A0_0 a0.length n0_0), (1, .slice A1_0 a1.length n1_0), (2, .bool a2), (7, .slice A6 y1.1.length c7), (8, .int .i64 y1.2), (9, .slice A15 y10.1.length c16), (12, .int .i64 s31.2), (42, .int .i64 (y1.1.length : Int)), (43, .int .i64 s31.2), (57, .int .i64 s31.1), (58, .slice A6 y1.1.length c7), (59, .int .i64 s31.2)]) (by kernel_rfl) ?_
            obtain ⟨x73, hx74, hb33⟩ := bind_some hb33
            refine gl_indexAddrW (d := (Kd.sl kS38)) (c := c7) (T' := 48) (e := 22) (xs := (.tmp 58)) (xi := (.tmp 59)) (kd := .i64) hx74 (hO9.mono (Imm.trans (Imm.trans hI14 hI18) hI34)) (Upd.selfC _ _) (by kernel_rfl) (by kernel_rfl) (by kernel_rfl) (by kernel_rfl) (by kernel_rfl) (fun p75 cs76 hR77 hA78 hp84 => ?_)
            obtain ⟨A81, n82, rfl, hf83⟩ := sl_open hR77
            refine gl_loadO (T' := 22) (xp := (.tmp 60)) (p := p75) (c := .slice A81 x73.length n82) (n := 1) (by kernel_rfl) (by kernel_rfl) (by kernel_rfl) (by kernel_rfl) hA78 ?_
            refine gl_pure 3 [0, 1, 2, 7, 8, 9, 11, 12, 42, 43] (K' := [(0, .slice A0_0 a0.length n0_0), (1, .slice A1_0 a1.length n1_0), (2, .bool a2), (7, .slice A6 y1.1.length c7), (8, .int .i64 y1.2), (9, .slice A15 y10.1.length c16), (11, .int .i64 (IntKind.wrap .i64 (s31.1 + (x73.length : Int)))), (12, .int .i64 s31.2), (42, .int .i64 (y1.1.length : Int)), (43, .int .i64 s31.2)]) (by kernel_rfl) ?_
            refine gl_atE (by kernel_rfl) ?_
            refine ge_seq ?_
            refine gk_seq (by kernel_rfl) ?_
            refine gk_region (by kernel_rfl) ?_
            refine gl_pure 2 [0, 1, 2, 7, 8, 9, 11, 12, 42, 43, 64, 65] (K' := [(0, .slice A0_0 a0.length n0_0), (1, .slice A1_0 a1.length n1_0), (2, .bool a2), (7, .slice A6 y1.1.length c7), (8, .int .i64 y1.2), (9, .slice A15 y10.1.length c16), (11, .int .i64 (IntKind.wrap .i64 (s31.1 + (x73.length : Int)))), (12, .int .i64 s31.2), (42, .int .i64 (y1.1.length : Int)), (43, .int .i64 s31.2), (64, .slice A6 y1.1.length c7), (65, .int .i64 s31.2)]) (by kernel_rfl) ?_
            obtain ⟨x85, hx86, hb33⟩ := bind_some hb33
            refine gl_indexAddrW (d := (Kd.sl kS38)) (c := c7) (T' := 48) (e := 22) (xs := (.tmp 64)) (xi := (.tmp 65)) (kd := .i64) hx86 (hO9.mono (Imm.trans (Imm.trans hI14 hI18) hI34)) (Upd.selfC _ _) (by kernel_rfl) (by kernel_rfl) (by kernel_rfl) (by kernel_rfl) (by kernel_rfl) (fun p87 cs88 hR89 hA90 hp96 => ?_)
            obtain ⟨A93, n94, rfl, hf95⟩ := sl_open hR89
            refine gl_loadO (T' := 22) (xp := (.tmp 66)) (p := p87) (c := .slice A93 x85.length n94) (n := 1) (by kernel_rfl) (by kernel_rfl) (by kernel_rfl) (by kernel_rfl) hA90 ?_
            refine gl_pure 2 [0, 1, 2, 7, 8, 9, 11, 12, 42, 43, 67, 68, 69] (K' := [(0, .slice A0_0 a0.length n0_0), (1, .slice A1_0 a1.length n1_0), (2, .bool a2), (7, .slice A6 y1.1.length c7), (8, .int .i64 y1.2), (9, .slice A15 y10.1.length c16), (11, .int .i64 (IntKind.wrap .i64 (s31.1 + (x73.length : Int)))), (12, .int .i64 s31.2), (42, .int .i64 (y1.1.length : Int)), (43, .int .i64 s31.2), (67, .slice A93 x85.length n94), (68, .int .i64 (x85.length : Int)), (69, .int .i64 0)]) (by kernel_rfl) ?_
            refine gl_atE (by kernel_rfl) ?_
            refine ge_seq ?_
            obtain ⟨r101, hl102, hb33⟩ := bind_some hb33
            refine gk_join (fun t I' L' => ∃ r109, r101 = Sum.inl r109 ∧ I36 ≤ I' ∧ C8 ++ L = L' ∧ Knows 106 [(0, .slice A0_0 a0.length n0_0), (1, .slice A1_0 a1.length n1_0), (2, .bool a2), (7, .slice A6 y1.1.length c7), (8, .int .i64 y1.2), (9, .slice A15 y10.1.length c16), (11, .int .i64 (IntKind.wrap .i64 (s31.1 + (x73.length : Int)))), (42, .int .i64 (y1.1.length : Int)), (43, .int .i64 s31.2)] t) ?_ ?_
            · refine gk_block (by kernel_rfl) ?_
              refine gk_pick [0, 1, 2, 7, 8, 9, 11, 12, 42, 43, 67, 68, 69] (K' := [(0, .slice A0_0 a0.length n0_0), (1, .slice A1_0 a1.length n1_0), (2, .bool a2), (7, .slice A6 y1.1.length c7), (8, .int .i64 y1.2), (9, .slice A15 y10.1.length c16), (11, .int .i64 (IntKind.wrap .i64 (s31.1 + (x73.length : Int)))), (12, .int .i64 s31.2), (42, .int .i64 (y1.1.length : Int)), (43, .int .i64 s31.2), (67, .slice A93 x85.length n94), (68, .int .i64 (x85.length : Int)), (69, .int .i64 0)]) (by kernel_rfl) ?_
              intro t hK
              refine gc_loop (tocsinlaw16_AggrGroups_l113 a1 a2 y10 s31 x85) (fun s103 t I' L' => I36 ≤ I' ∧ C8 ++ L = L' ∧ Knows 106 [(0, .slice A0_0 a0.length n0_0), (1, .slice A1_0 a1.length n1_0), (2, .bool a2), (7, .slice A6 y1.1.length c7), (8, .int .i64 y1.2), (9, .slice A15 y10.1.length c16), (11, .int .i64 (IntKind.wrap .i64 (s31.1 + (x73.length : Int)))), (12, .int .i64 s31.2), (42, .int .i64 (y1.1.length : Int)), (43, .int .i64 s31.2), (67, .slice A93 x85.length n94), (68, .int .i64 (x85.length : Int)), (69, .int .i64 s103)] t) (by kernel_rfl) ?_ hl102 ⟨(Imm.refl _), rfl, hK⟩
              rintro s103 o104 t I108 L' hb105 ⟨hI106, rfl, hK107⟩
              unfold tocsinlaw16_AggrGroups_l113 at hb105
              refine gk_at hK107 ?_
              refine gk_seq (by kernel_rfl) ?_
              refine gk_region (by kernel_rfl) ?_
              refine gl_pure 1 [0, 1, 2, 7, 8, 9, 11, 12, 42, 43, 67, 68, 69, 70] (K' := [(0, .slice A0_0 a0.length n0_0), (1, .slice A1_0 a1.length n1_0), (2, .bool a2), (7, .slice A6 y1.1.length c7), (8, .int .i64 y1.2), (9, .slice A15 y10.1.length c16), (11, .int .i64 (IntKind.wrap .i64 (s31.1 + (x73.length : Int)))), (12, .int .i64 s31.2), (42, .int .i64 (y1.1.length : Int)), (43, .int .i64 s31.2), (67, .slice A93 x85.length n94), (68, .int .i64 (x85.length : Int)), (69, .int .i64 s103), (70, .bool (decide (s103 < (x85.length : Int))))]) (by kernel_rfl) ?_
              refine gl_atE (by kernel_rfl) ?_
              refine ge_seq ?_
              refine gk_seq (by kernel_rfl) ?_
              refine gk_cond (b := (decide (s103 < (x85.length : Int)))) (by kernel_rfl) (by kernel_rfl) (fun hc115 => ?_) (fun hc115 => ?_)
              · have hb105 := cond_t hc115 hb105
                refine gk_skip (by kernel_rfl) ?_
                refine ge_seq ?_
                refine gk_seq (by kernel_rfl) ?_
                refine gk_block (by kernel_rfl) ?_
                refine gk_seq (by kernel_rfl) ?_
                refine gk_region (by kernel_rfl) ?_
                obtain ⟨x116, hx117, hb105⟩ := bind_some hb105
                obtain ⟨p118, cs119, hR120, hA121, ha122⟩ := RepS.ixAt hx117 (hf95.mono hI106)
                have hi123 := ix_some hx117
                obtain ⟨A124, n125, b127, hf126, hf128, rfl⟩ := kS38_open hR120
                refine gl_indexAddrF (c := n94) (T' := 22) (e := 39) (xs := (.tmp 67)) (xi := (.tmp 69)) (kd := .i64) ha122 hi123.1 hi123.2.1 (by kernel_rfl) (by kernel_rfl) (by kernel_rfl) (by kernel_rfl) (by kernel_rfl) ?_
                refine gl_loadA (T' := 39) (xp := (.tmp 71)) (p := p118) (cs := [.slice A124 x116.f0.length n125, .float .f64 b127]) (by kernel_rfl) (by kernel_rfl) (by kernel_rfl) (by kernel_rfl) (hA121.take 2) ?_
                refine gl_alloc (T' := 39) (cs := #[.slice none 0 0, .float .f64 0]) (by kernel_rfl) (by kernel_rfl) (by kernel_rfl) (fun g129 => ?_)
                refine gl_storeB (T' := 39) (xp := (.tmp 14)) (xv := (.tmp 72)) (v := .agg #[.slice A124 x116.f0.length n125, .float .f64 b127]) (g := g129) (off := 0) (cs := #[.slice none 0 0, .float .f64 0]) (cs' := #[.slice A124 x116.f0.length n125, .float .f64 b127]) (by kernel_rfl) (by kernel_rfl) (by kernel_rfl) (by kernel_rfl) (by kernel_rfl) (Upd.set _ _ _ _) ?_ (by kernel_rfl)
                refine gl_atE (by kernel_rfl) ?_
                refine ge_seq ?_
                refine gk_seq (by kernel_rfl) ?_
                refine gk_region (by kernel_rfl) ?_
                refine gl_pure 1 [0, 1, 2, 7, 8, 9, 11, 12, 42, 43, 67, 68, 69, 74] (K' := [(0, .slice A0_0 a0.length n0_0), (1, .slice A1_0 a1.length n1_0), (2, .bool a2), (7, .slice A6 y1.1.length c7), (8, .int .i64 y1.2), (9, .slice A15 y10.1.length c16), (11, .int .i64 (IntKind.wrap .i64 (s31.1 + (x73.length : Int)))), (12, .int .i64 s31.2), (42, .int .i64 (y1.1.length : Int)), (43, .int .i64 s31.2), (67, .slice A93 x85.length n94), (68, .int .i64 (x85.length : Int)), (69, .int .i64 s103), (74, .pointer (some ⟨g129, 0, none⟩))]) (by kernel_rfl) ?_
                refine gl_loadB (T' := 36) (xp := (.tmp 74)) (v := .slice A124 x116.f0.length n125) (g := g129) (off := 0) (cs := #[.slice A124 x116.f0.length n125, .float .f64 b127]) (e := 39) (fz := (0, 0)) (by kernel_rfl) (by kernel_rfl) (by kernel_rfl) List.mem_cons_self (by kernel_rfl) ?_
                refine gl_pure 2 [0, 1, 2, 7, 8, 9, 11, 12, 42, 43, 67, 68, 69, 75, 76, 77] (K' := [(0, .slice A0_0 a0.length n0_0), (1, .slice A1_0 a1.length n1_0), (2, .bool a2), (7, .slice A6 y1.1.length c7), (8, .int .i64 y1.2), (9, .slice A15 y10.1.length c16), (11, .int .i64 (IntKind.wrap .i64 (s31.1 + (x73.length : Int)))), (12, .int .i64 s31.2), (42, .int .i64 (y1.1.length : Int)), (43, .int .i64 s31.2), (67, .slice A93 x85.length n94), (68, .int .i64 (x85.length : Int)), (69, .int .i64 s103), (75, .slice A124 x116.f0.length n125), (76, .slice A1_0 a1.length n1_0), (77, .bool a2)]) (by kernel_rfl) ?_
                obtain ⟨y130, hx131, hb105⟩ := bind_some hb105
                refine gl_call (by kernel_rfl) (aggr_Group_walk (r := y130) (hG.mono (Imm.trans (Imm.trans (Imm.trans (Imm.trans hI5 hI14) hI18) hI34) hI106)) hf126 (hf1_0.mono (Imm.trans (Imm.trans (Imm.trans (Imm.trans hI5 hI14) hI18) hI34) hI106)) hx131 _) ?_
                rintro v I132 L133 hI134 ⟨A135, c136, C137, hO138, rfl, rfl⟩
                refine gl_pure 5 [0, 1, 2, 7, 8, 9, 11, 12, 15, 16, 42, 43, 67, 68, 69] (K' := [(0, .slice A0_0 a0.length n0_0), (1, .slice A1_0 a1.length n1_0), (2, .bool a2), (7, .slice A6 y1.1.length c7), (8, .int .i64 y1.2), (9, .slice A15 y10.1.length c16), (11, .int .i64 (IntKind.wrap .i64 (s31.1 + (x73.length : Int)))), (12, .int .i64 s31.2), (15, .slice A135 y130.1.length c136), (16, .int .i64 y130.2), (42, .int .i64 (y1.1.length : Int)), (43, .int .i64 s31.2), (67, .slice A93 x85.length n94), (68, .int .i64 (x85.length : Int)), (69, .int .i64 s103)]) (by kernel_rfl) ?_
                refine gl_atE (by kernel_rfl) ?_
                refine ge_seq ?_
                refine gk_seq (by kernel_rfl) ?_
                obtain ⟨j139, hj140, hb105⟩ := bind_some hb105
                refine gk_join (fun t I' L' => I132 ≤ I' ∧ C8 ++ L = L' ∧ Knows 106 [(0, .slice A0_0 a0.length n0_0), (1, .slice A1_0 a1.length n1_0), (2, .bool a2), (7, .slice A6 y1.1.length c7), (8, .int .i64 y1.2), (9, .slice A15 y10.1.length c16), (11, .int .i64 (IntKind.wrap .i64 (s31.1 + (x73.length : Int)))), (12, .int .i64 s31.2), (42, .int .i64 (y1.1.length : Int)), (43, .int .i64 s31.2), (67, .slice A93 x85.length n94), (68, .int .i64 (x85.length : Int)), (69, .int .i64 s103), (92, .bool j139)] t) ?_ ?_
                · refine gk_region (by kernel_rfl) ?_
                  refine gl_pure 3 [0, 1, 2, 7, 8, 9, 11, 12, 15, 42, 43, 67, 68, 69, 83] (K' := [(0, .slice A0_0 a0.length n0_0), (1, .slice A1_0 a1.length n1_0), (2, .bool a2), (7, .slice A6 y1.1.length c7), (8, .int .i64 y1.2), (9, .slice A15 y10.1.length c16), (11, .int .i64 (IntKind.wrap .i64 (s31.1 + (x73.length : Int)))), (12, .int .i64 s31.2), (15, .slice A135 y130.1.length c136), (42, .int .i64 (y1.1.length : Int)), (43, .int .i64 s31.2), (67, .slice A93 x85.length n94), (68, .int .i64 (x85.length : Int)), (69, .int .i64 s103), (83, .bool (y130.2 != 0))]) (by kernel_rfl) ?_
                  refine gl_case 83 (b := (y130.2 != 0)) (by kernel_rfl) (fun hc144 => ?_) (fun hc144 => ?_)
                  · have hj140 := cond_t hc144 hj140
                    refine gl_pure 9 [0, 1, 2, 7, 8, 9, 11, 12, 42, 43, 67, 68, 69, 92] (K' := [(0, .slice A0_0 a0.length n0_0), (1, .slice A1_0 a1.length n1_0), (2, .bool a2), (7, .slice A6 y1.1.length c7), (8, .int .i64 y1.2), (9, .slice A15 y10.1.length c16), (11, .int .i64 (IntKind.wrap .i64 (s31.1 + (x73.length : Int)))), (12, .int .i64 s31.2), (42, .int .i64 (y1.1.length : Int)), (43, .int .i64 s31.2), (67, .slice A93 x85.length n94), (68, .int .i64 (x85.length : Int)), (69, .int .i64 s103), (92, .bool true)]) (by kernel_rfl) ?_
                    refine gl_reord (D := C8 ++ L) (Reord.step (Upd.app _ (Upd.one _ (Upd.rmC _ _))) (Reord.skipC (Reord.skip (Reord.refl _)))) ?_
                    refine gl_atE (by kernel_rfl) ?_
                    obtain rfl := some_inj hj140
                    exact ge_mid fun t ht => ⟨(Imm.refl _), rfl, ht.pick (l := [0, 1, 2, 7, 8, 9, 11, 12, 42, 43, 67, 68, 69, 92]) (by kernel_rfl)⟩
                  · have hj140 := cond_f hc144 hj140
                    refine gl_pure 3 [0, 1, 2, 7, 8, 9, 11, 12, 42, 43, 67, 68, 69, 83, 84, 85, 86] (K' := [(0, .slice A0_0 a0.length n0_0), (1, .slice A1_0 a1.length n1_0), (2, .bool a2), (7, .slice A6 y1.1.length c7), (8, .int .i64 y1.2), (9, .slice A15 y10.1.length c16), (11, .int .i64 (IntKind.wrap .i64 (s31.1 + (x73.length : Int)))), (12, .int .i64 s31.2), (42, .int .i64 (y1.1.length : Int)), (43, .int .i64 s31.2), (67, .slice A93 x85.length n94), (68, .int .i64 (x85.length : Int)), (69, .int .i64 s103), (83, .bool false), (84, .slice A135 y130.1.length c136), (85, .slice A15 y10.1.length c16), (86, .int .i64 s31.2)]) (by kernel_rfl) ?_
                    obtain ⟨x145, hx146, hj140⟩ := bind_some hj140
                    obtain ⟨p147, cs148, hR149, hA150, ha151⟩ := RepS.ixAt hx146 (hf17.mono (Imm.trans (Imm.trans (Imm.trans hI18 hI34) hI106) hI134))
                    have hi152 := ix_some hx146
                    obtain ⟨A153, n154, A156, n157, hf155, hf158, rfl⟩ := kS61_open hR149
                    refine gl_indexAddrF (c := c16) (T' := 58) (e := 62) (xs := (.tmp 85)) (xi := (.tmp 86)) (kd := .i64) ha151 hi152.1 hi152.2.1 (by kernel_rfl) (by kernel_rfl) (by kernel_rfl) (by kernel_rfl) (by kernel_rfl) ?_
                    refine gl_pure 1 [0, 1, 2, 7, 8, 9, 11, 12, 42, 43, 67, 68, 69, 83, 84, 88] (K' := [(0, .slice A0_0 a0.length n0_0), (1, .slice A1_0 a1.length n1_0), (2, .bool a2), (7, .slice A6 y1.1.length c7), (8, .int .i64 y1.2), (9, .slice A15 y10.1.length c16), (11, .int .i64 (IntKind.wrap .i64 (s31.1 + (x73.length : Int)))), (12, .int .i64 s31.2), (42, .int .i64 (y1.1.length : Int)), (43, .int .i64 s31.2), (67, .slice A93 x85.length n94), (68, .int .i64 (x85.length : Int)), (69, .int .i64 s103), (83, .bool false), (84, .slice A135 y130.1.length c136), (88, .pointer (some (p147.add 0)))]) (by kernel_rfl) ?_
                    refine gl_load (T' := 36) (xp := (.tmp 88)) (p := (p147.add 0)) (c := .slice A153 x145.f0.length n154) (n := 1) (by kernel_rfl) (by kernel_rfl) (by kernel_rfl) (by kernel_rfl) (hA150.drop 0) ?_
                    obtain ⟨y159, hx160, hj140⟩ := bind_some hj140
                    refine gl_callB (r := .bool y159) (Tk.step (Upd.rmC _ _) (Tk.nil _)) (by kernel_rfl) (fun J hJ hC => tocsinref04_Same_walk (r := y159) (OwnS.rest hO138 hJ hC.left) (hf155.mono hJ) hx160 _) ?_
                    refine gl_pure 2 [0, 1, 2, 7, 8, 9, 11, 12, 42, 43, 67, 68, 69, 92] (K' := [(0, .slice A0_0 a0.length n0_0), (1, .slice A1_0 a1.length n1_0), (2, .bool a2), (7, .slice A6 y1.1.length c7), (8, .int .i64 y1.2), (9, .slice A15 y10.1.length c16), (11, .int .i64 (IntKind.wrap .i64 (s31.1 + (x73.length : Int)))), (12, .int .i64 s31.2), (42, .int .i64 (y1.1.length : Int)), (43, .int .i64 s31.2), (67, .slice A93 x85.length n94), (68, .int .i64 (x85.length : Int)), (69, .int .i64 s103), (92, .bool (!y159))]) (by kernel_rfl) ?_
                    refine gl_reord (D := C8 ++ L) (Reord.step (Upd.app _ (Upd.one _ (Upd.rmC _ _))) (Reord.skipC (Reord.skip (Reord.refl _)))) ?_
                    refine gl_atE (by kernel_rfl) ?_
                    obtain rfl := some_inj hj140
                    exact ge_mid fun t ht => ⟨(Imm.refl _), rfl, ht.pick (l := [0, 1, 2, 7, 8, 9, 11, 12, 42, 43, 67, 68, 69, 92]) (by kernel_rfl)⟩
                · rintro t I143 L' ⟨hI141, rfl, hK142⟩
                  refine ge_at hK142 ?_
                  refine ge_seq ?_
                  refine gk_cond (b := j139) (by kernel_rfl) (by kernel_rfl) (fun hc161 => ?_) (fun hc161 => ?_)
                  · have hb105 := cond_t hc161 hb105
                    refine gk_seq (by kernel_rfl) ?_
                    refine gk_region (by kernel_rfl) ?_
                    refine gl_pure 1 [6] (K' := [(6, .bool false)]) (by kernel_rfl) ?_
                    refine gl_atE (by kernel_rfl) ?_
                    refine ge_seq ?_
                    refine gk_reord (D := L) (Reord.skipC (Reord.refl _)) ?_
                    refine gk_ret (by kernel_rfl) ?_
                    refine ge_block_ret ?_
                    refine ge_seq_ret ?_
                    obtain rfl := some_inj hb105
                    refine ge_round_out (fun hrr => ?_) (by intro h; cases h)
                    obtain rfl := hrr
                    refine ge_block_ret ?_
                    refine ge_seq_ret ?_
                    refine ge_block_ret ?_
                    refine ge_seq_ret ?_
                    obtain rfl := some_inj hb33
                    refine ge_round_out (fun hrr => ?_) (by intro h; cases h)
                    obtain rfl := hrr
                    refine ge_block_ret ?_
                    refine ge_seq_ret ?_
                    refine ge_seq_ret ?_
                    obtain rfl := some_inj hr
                    exact ge_result trivial (ResOk.tmp (by kernel_rfl) ResOk.nil) (Imm.trans (Imm.trans (Imm.trans (Imm.trans (Imm.trans (Imm.trans hI5 hI14) hI18) hI34) hI106) hI134) hI141) ⟨rfl, rfl⟩
                  · have hb105 := cond_f hc161 hb105
                    refine gk_skip (by kernel_rfl) ?_
                    refine ge_block_normal ?_
                    refine ge_seq ?_
                    refine gk_region (by kernel_rfl) ?_
                    refine gl_pure 2 [0, 1, 2, 7, 8, 9, 11, 12, 42, 43, 67, 68, 69] (K' := [(0, .slice A0_0 a0.length n0_0), (1, .slice A1_0 a1.length n1_0), (2, .bool a2), (7, .slice A6 y1.1.length c7), (8, .int .i64 y1.2), (9, .slice A15 y10.1.length c16), (11, .int .i64 (IntKind.wrap .i64 (s31.1 + (x73.length : Int)))), (12, .int .i64 s31.2), (42, .int .i64 (y1.1.length : Int)), (43, .int .i64 s31.2), (67, .slice A93 x85.length n94), (68, .int .i64 (x85.length : Int)), (69, .int .i64 (IntKind.wrap .i64 (s103 + 1)))]) (by kernel_rfl) ?_
                    refine gl_atE (by kernel_rfl) ?_
                    obtain rfl := some_inj hb105
                    exact ge_round fun t ht => ⟨(Imm.trans (Imm.trans hI106 hI134) hI141), rfl, ht.pick (l := [0, 1, 2, 7, 8, 9, 11, 12, 42, 43, 67, 68, 69]) (by kernel_rfl)⟩
              · have hb105 := cond_f hc115 hb105
                refine gk_exit (by kernel_rfl) ?_
                refine ge_seq_exit ?_
                obtain rfl := some_inj hb105
                refine ge_round_out (fun hrr => ?_) (by intro h; cases h)
                obtain rfl := hrr
                refine ge_block_hit (by kernel_rfl) ?_
                exact ge_mid fun t ht => ⟨_, rfl, hI106, rfl, ht.pick (l := [0, 1, 2, 7, 8, 9, 11, 42, 43]) (by kernel_rfl)⟩
            · rintro t I112 L' ⟨r109, rfl, hI110, rfl, hK111⟩
              refine ge_at hK111 ?_
              refine ge_block_normal ?_
              refine ge_seq ?_
              refine gk_region (by kernel_rfl) ?_
              refine gl_pure 2 [0, 1, 2, 7, 8, 9, 11, 42, 43] (K' := [(0, .slice A0_0 a0.length n0_0), (1, .slice A1_0 a1.length n1_0), (2, .bool a2), (7, .slice A6 y1.1.length c7), (8, .int .i64 y1.2), (9, .slice A15 y10.1.length c16), (11, .int .i64 (IntKind.wrap .i64 (s31.1 + (x73.length : Int)))), (42, .int .i64 (y1.1.length : Int)), (43, .int .i64 (IntKind.wrap .i64 (s31.2 + 1)))]) (by kernel_rfl) ?_
              refine gl_atE (by kernel_rfl) ?_
              obtain rfl := some_inj hb33
              exact ge_round fun t ht => ⟨(Imm.trans hI34 hI110), rfl, ht.pick (l := [0, 1, 2, 7, 8, 9, 11, 42, 43]) (by kernel_rfl)⟩
        · have hb33 := cond_f hc43 hb33
          refine gk_reord (D := L) (Reord.skipC (Reord.refl _)) ?_
          refine gk_exit (by kernel_rfl) ?_
          refine ge_seq_exit ?_
          obtain rfl := some_inj hb33
          refine ge_round_out (fun hrr => ?_) (by intro h; cases h)
          obtain rfl := hrr
          refine ge_block_hit (by kernel_rfl) ?_
          exact ge_mid fun t ht => ⟨_, rfl, hI34, rfl, ht.pick (l := [0, 8, 11]) (by kernel_rfl)⟩
      · rintro t I40 L' ⟨r37, rfl, hI38, rfl, hK39⟩
        refine ge_at hK39 ?_
        refine ge_seq ?_
        refine gk_seq (by kernel_rfl) ?_
        obtain ⟨j163, hj164, hr⟩ := bind_some hr
        refine gk_join (fun t I' L' => I40 ≤ I' ∧ L = L' ∧ Knows 106 [(6, .bool j163)] t) ?_ ?_
        · refine gk_region (by kernel_rfl) ?_
          refine gl_pure 3 [0, 11, 97] (K' := [(0, .slice A0_0 a0.length n0_0), (11, .int .i64 r37), (97, .bool (y1.2 != 0))]) (by kernel_rfl) ?_
          refine gl_case 97 (b := (y1.2 != 0)) (by kernel_rfl) (fun hc168 => ?_) (fun hc168 => ?_)
          · have hj164 := cond_t hc168 hj164
            refine gl_pure 6 [103] (K' := [(103, .bool true)]) (by kernel_rfl) ?_
            obtain ⟨y169, hx170, hj164⟩ := bind_some hj164
            refine gl_callQ (by kernel_rfl) (tocsinlaw16_awake_walk (r := y169) (hG.mono (Imm.trans (Imm.trans (Imm.trans hI5 hI14) hI18) hI38)) hx170 _) ?_
            refine gl_pure 2 [6] (K' := [(6, .bool y169)]) (by kernel_rfl) ?_
            refine gl_atE (by kernel_rfl) ?_
            obtain rfl := some_inj hj164
            exact ge_mid fun t ht => ⟨(Imm.refl _), rfl, ht.pick (l := [6]) (by kernel_rfl)⟩
          · have hj164 := cond_f hc168 hj164
            refine gl_pure 6 [103] (K' := [(103, .bool (r37 == (a0.length : Int)))]) (by kernel_rfl) ?_
            refine gl_case 103 (b := (r37 == (a0.length : Int))) (by kernel_rfl) (fun hc171 => ?_) (fun hc171 => ?_)
            · have hj164 := cond_t hc171 hj164
              obtain ⟨y172, hx173, hj164⟩ := bind_some hj164
              refine gl_callQ (by kernel_rfl) (tocsinlaw16_awake_walk (r := y172) (hG.mono (Imm.trans (Imm.trans (Imm.trans hI5 hI14) hI18) hI38)) hx173 _) ?_
              refine gl_pure 2 [6] (K' := [(6, .bool y172)]) (by kernel_rfl) ?_
              refine gl_atE (by kernel_rfl) ?_
              obtain rfl := some_inj hj164
              exact ge_mid fun t ht => ⟨(Imm.refl _), rfl, ht.pick (l := [6]) (by kernel_rfl)⟩
            · have hj164 := cond_f hc171 hj164
              refine gl_pure 3 [6] (K' := [(6, .bool false)]) (by kernel_rfl) ?_
              refine gl_atE (by kernel_rfl) ?_
              obtain rfl := some_inj hj164
              exact ge_mid fun t ht => ⟨(Imm.refl _), rfl, ht.pick (l := [6]) (by kernel_rfl)⟩
        · rintro t I167 L' ⟨hI165, rfl, hK166⟩
          refine ge_at hK166 ?_
          refine ge_seq ?_
          refine gk_ret (by kernel_rfl) ?_
          obtain rfl := some_inj hr
          exact ge_result trivial (ResOk.tmp (by kernel_rfl) ResOk.nil) (Imm.trans (Imm.trans (Imm.trans (Imm.trans hI5 hI14) hI18) hI38) hI165) ⟨rfl, rfl⟩
end Go.Proofs.YtkjkkimnjpodiaaGreatDoor
/- From data that are read to what the walks ask: rows. -/
set_option linter.unusedVariables false
set_option linter.unusedSimpArgs false
namespace Go.GB
open Go Go.RowKit
open Go.Proofs.YtkjkkimnjpodiaaGreatDoor.Rows (uptoBulk uptoBulkAll)
def immOf (W : World) : Imm := ⟨fun b => W.heap[b]?, W.os, W.tape, W.output, 0⟩
theorem holds_immOf (W : World) : Holds (immOf W) [] W := ⟨fun _ _ h => h, by simp, by simp, by simp, rfl, rfl, rfl, Nat.zero_le _⟩
theorem below_of {I' : Imm} {L' : Own} {W W' : World} (h : Holds I' L' W') (hI : immOf W ≤ I') : Below W.heap.size W W' := by
  refine ⟨by rw [h.os, hI.os]; rfl, by rw [h.tape, hI.tape]; rfl, by rw [h.out, hI.out]; rfl, ?_, fun k hk => ?_⟩
  · rcases Nat.eq_zero_or_pos W.heap.size with h0 | h0
    · omega
    · have : W.heap[W.heap.size - 1]? = some (W.heap[W.heap.size - 1]'(by omega)) := Array.getElem?_eq_getElem _
      have := lt_of_heap (h.imm _ _ (hI.h _ _ this))
      omega
  · have : W.heap[k]? = some (W.heap[k]) := Array.getElem?_eq_getElem hk
    rw [this]; exact h.imm _ _ (hI.h _ _ this)
theorem imm_cell {W : World} {a : Addr} {v : Value} (h : W.cell? a = some v) : (immOf W).cell a = some v := h
theorem run_of_cells {W : World} {a : Addr} {n : Nat} {cs : List Value} (h : W.cells? 0 a n = some cs) : RunAt (immOf W) a cs := fun j v hj => by
  unfold World.cells? at h
  rw [if_pos (Nat.zero_le _)] at h
  have hl := mapM_some_length h
  have hj' : j < n := by have := (List.getElem?_eq_some_iff.1 hj).1; simpa [hl] using this
  have := mapM_some_get h j j (by simp [hj'])
  exact imm_cell (this.trans hj)
def Reads {α : Type} (P : Program) (T : TypeId) (d : Kd α) (w : α → Nat → Prop) : Prop := ∀ {H : Type} {enc : TypeId × Value → H} {W : World} {spare : Nat → Bool} {held : Bool} {fuel : Nat} {cs : List Value} {x : DataW H × List MemPlace},
  DataW.trod enc P W 0 spare held fuel T cs = some x → uptoBulk x.1 ≤ 1048576 → ∃ y, d.R (immOf W) y cs ∧ w y (uptoBulk x.1)
theorem reads_bool {P : Program} {T : TypeId} (h : P.underlying T = some .bool) : Reads P T Kd.bool wBool := fun ht _ => by
  obtain ⟨n, rfl, _⟩ := DataW.trod_bool h ht
  exact ⟨n, rfl, trivial⟩
theorem reads_str {P : Program} {T : TypeId} (h : P.underlying T = some .string) : Reads P T Kd.str wStr := fun ht _ => by
  obtain ⟨n, rfl, rfl, _⟩ := DataW.trod_string h ht
  exact ⟨n, rfl, by simp [uptoBulk, wStr]⟩
theorem bulk_pos {H : Type} (d : DataW H) : 1 ≤ uptoBulk d := by
  cases d with
  | lit l => cases l <;> simp [uptoBulk]
  | _ => simp [uptoBulk]
theorem bulkAll_ge {H : Type} : ∀ (l : List (DataW H)), l.length ≤ uptoBulkAll l
  | [] => by simp
  | d :: r => by have := bulk_pos d; have := bulkAll_ge r; simp only [uptoBulkAll, List.length_cons]; omega
theorem bulkAll_mem {H : Type} {d : DataW H} : ∀ {l : List (DataW H)}, d ∈ l → uptoBulk d ≤ uptoBulkAll l
  | [], h => by cases h
  | e :: r, h => by
    simp only [uptoBulkAll]
    rcases List.mem_cons.1 h with rfl | h
    · omega
    · have := bulkAll_mem h; omega
theorem choose_list {α : Type} {p : Nat → α → Prop} : ∀ (n : Nat), (∀ i, i < n → ∃ y, p i y) → ∃ xs : List α, xs.length = n ∧ ∀ i x, xs[i]? = some x → p i x
  | 0, _ => ⟨[], rfl, fun i x h => by simp at h⟩
  | m + 1, key => by
    obtain ⟨xs, hxl, hx⟩ := choose_list m (fun i hi => key i (by omega))
    obtain ⟨y, hy⟩ := key m (by omega)
    refine ⟨xs ++ [y], by simp [hxl], fun i x h => ?_⟩
    rcases Nat.lt_or_ge i m with hi | hi
    · rw [List.getElem?_append_left (by omega)] at h; exact hx i x h
    · rw [List.getElem?_append_right (by omega), hxl] at h
      have hi0 : i - m = 0 := by have := (List.getElem?_eq_some_iff.1 h).1; simpa using this
      rw [hi0] at h
      simp only [List.getElem?_cons_zero, Option.some.injEq] at h
      subst h
      rw [show i = m from by omega]
      exact hy
theorem wSl_of {α H : Type} {w : α → Nat → Prop} : ∀ (xs : List α) (es : List (DataW H)), xs.length = es.length → (∀ (i : Nat) (x : α) (e : DataW H), xs[i]? = some x → es[i]? = some e → w x (uptoBulk e)) → wSl w xs (uptoBulkAll es)
  | [], _, _, _ => trivial
  | x :: r, [], h, _ => by simp at h
  | x :: r, e :: es, h, hw => ⟨uptoBulk e, uptoBulkAll es, hw 0 x e rfl rfl, wSl_of r es (by simpa using h) (fun i x' e' h1 h2 => hw (i + 1) x' e' (by simpa using h1) (by simpa using h2)), by simp [uptoBulkAll], bulk_pos e⟩
theorem reads_slice {α : Type} {P : Program} {T e : TypeId} {d : Kd α} {w : α → Nat → Prop} (hu : P.underlying T = some (.slice e)) (hn : P.cellsOf e = d.n) (hr : Reads P e d w) : Reads P T (Kd.sl d) (wSl w) := by
  intro H enc W spare held fuel cs x ht hb
  rcases DataW.trod_slice hu ht with ⟨rfl, rfl⟩ | ⟨a, len, cap, elems, rest, n, rfl, rfl, rfl, _, hlc, hcm, hel, hat, _, _⟩
  · exact ⟨[], ⟨none, 0, rfl, RepS.nil _ _⟩, trivial⟩
  · simp only [uptoBulk] at hb
    have hlen := bulkAll_ge (elems.map (·.1))
    rw [List.length_map, hel] at hlen
    have key : ∀ i, i < len → ∃ y, (∃ cs', d.R (immOf W) y cs' ∧ RunAt (immOf W) (a.add (i * d.n)) cs') ∧ ∀ e, (elems.map (·.1))[i]? = some e → w y (uptoBulk e) := fun i hi => by
      have h1 := hat i hi
      have hie : i < elems.length := by omega
      rw [List.getElem?_eq_getElem hie] at h1
      simp only [Option.bind_eq_some_iff] at h1
      obtain ⟨cs', h2, h3⟩ := h1
      obtain ⟨y, hy, hw⟩ := hr h3 (by
        have := bulkAll_mem (l := elems.map (·.1)) (List.mem_map_of_mem (List.getElem_mem hie))
        omega)
      refine ⟨y, ⟨cs', hy, ?_⟩, fun e he => ?_⟩
      · rw [← hn]
        exact run_of_cells h2
      · rw [List.getElem?_map, List.getElem?_eq_getElem hie] at he
        cases he; exact hw
    have hex := choose_list (p := fun i y => (∃ cs', d.R (immOf W) y cs' ∧ RunAt (immOf W) (a.add (i * d.n)) cs') ∧ ∀ e, (elems.map (·.1))[i]? = some e → w y (uptoBulk e)) len key
    obtain ⟨xs, hxl, hx⟩ := hex
    refine ⟨xs, ⟨some a, cap, by rw [hxl], by omega, by unfold maxLen'; omega, fun i x h => ?_⟩, ?_⟩
    · obtain ⟨⟨cs', h1, h2⟩, _⟩ := hx i x h
      exact ⟨a, cs', rfl, h1, h2⟩
    · exact (wSl_of xs (elems.map (·.1)) (by simp [hxl, hel]) (fun i x e h1 h2 => (hx i x h1).2 e h2)).le (by simp only [uptoBulk]; omega)
theorem pairR {α β : Type} {a : Kd α} {b : Kd β} {I : Imm} {x : α} {y : β} {cs : List Value} {o n m : Nat} (h0 : a.R I x ((cs.drop o).take n)) (h1 : b.R I y (cs.drop m)) (hm : m = o + n) : (Kd.pair a b).R I (x, y) (cs.drop o) := by
  subst hm
  exact ⟨(cs.drop o).take n, (cs.drop o).drop n, (List.take_append_drop _ _).symm, h0, by rw [List.drop_drop]; exact h1⟩
theorem lastR {α : Type} {a : Kd α} {I : Imm} {x : α} {cs : List Value} {o n : Nat} (h : a.R I x ((cs.drop o).take n)) (hl : cs.length = o + n) : a.R I x (cs.drop o) := by
  rwa [List.take_of_length_le (by rw [List.length_drop]; omega)] at h
def fieldD (P : Program) (T : TypeId) (i : Nat) : Field := (P.fieldsOf T).getD i default
theorem field_read {α : Type} {H : Type} {enc : TypeId × Value → H} {P : Program} {W : World} {spare : Nat → Bool} {held : Bool} {m : Nat} {T t : TypeId} {d : Kd α} {w : α → Nat → Prop} {cs : List Value} {xs : List (DataW H × List MemPlace)} {x : DataW H × List MemPlace} {i o n : Nat}
    (hf : ∀ (i : Nat) (f : Field), (P.fieldsOf T)[i]? = some f → DataW.trod enc P W 0 spare held m f.type ((cs.drop f.offset).take (P.cellsOf f.type)) = xs[i]?)
    (hx : xs[i]? = some x) (h1 : (P.fieldsOf T)[i]? = some (fieldD P T i)) (h2 : (fieldD P T i).type = t) (h3 : (fieldD P T i).offset = o) (h4 : P.cellsOf t = n) (hr : Reads P t d w) (hb : uptoBulk x.1 ≤ 1048576) : ∃ y, d.R (immOf W) y ((cs.drop o).take n) ∧ w y (uptoBulk x.1) := by
  have := hf i _ h1
  rw [hx, h2, h3, h4] at this
  exact hr this hb
theorem calls_of {P : Program} {f : FuncId} {args : Array Value} {W : World} {b : Value} (h : CallsTo P f args (immOf W) [] (fun v I' L' => v = b ∧ [] = L')) : Calls P f args W fun e W' => e = .returned b ∧ Below W.heap.size W W' :=
  (h W (holds_immOf W)).mono fun e W' ⟨v, I', L', he, hI, hh, hv, _⟩ => ⟨by rw [he, hv], below_of hh hI⟩
end Go.GB
/- Floats that are read. -/
set_option linter.unusedVariables false
set_option linter.unusedSimpArgs false
namespace Go.GB
open Go Go.RowKit
theorem trod_float {H : Type} {enc : TypeId × Value → H} {P : Program} {w : World} {base : Nat} {spare : Nat → Bool} {held : Bool} {fuel : Nat} {t : TypeId} {cs : List Value} {x : DataW H × List MemPlace} {k : FloatKind} (ht : P.underlying t = some (.float k)) (h : DataW.trod enc P w base spare held fuel t cs = some x) :
    ∃ b, cs = [.float k b] ∧ x = (.lit (.float k b), []) ∧ (Lit.float k b).wf = true := by
  cases fuel with
  | zero => simp [DataW.trod] at h
  | succ n =>
    unfold DataW.trod at h
    rw [ht] at h
    split at h <;> simp_all
theorem reads_flt {P : Program} {T : TypeId} (h : P.underlying T = some (.float .f64)) : Reads P T Kd.flt wFlt := fun ht _ => by
  obtain ⟨b, rfl, _, hw⟩ := trod_float h ht
  simp only [Lit.wf, decide_eq_true_eq] at hw
  exact ⟨some b, ⟨b, rfl, rfl⟩, b, rfl, hw⟩
end Go.GB
/- What plain functions come to: a calculus for 'it answers, and its answer is ..'. -/
set_option linter.unusedVariables false
set_option linter.unusedSimpArgs false
namespace Go.GB
theorem wrap_up {i : Nat} (h : i < 4294967296) : IntKind.wrap .i64 ((i : Int) + 1) = ((i + 1 : Nat) : Int) := by rw [wrap64 (by omega) (by omega)]; omega
theorem ix_nat {α : Type} (xs : List α) (i : Nat) : ix xs (i : Int) = xs[i]? := by simp [ix]
theorem size_zero_iff {s : ByteArray} : (s.toList == (⟨#[]⟩ : ByteArray).toList) = decide (s.size = 0) := by
  rw [ByteArray.toList_eq, ByteArray.toList_eq]
  obtain ⟨⟨l⟩⟩ := s
  cases l <;> rfl
theorem toList_inj {a b : ByteArray} : (a.toList == b.toList) = true ↔ a = b := by
  rw [ByteArray.toList_eq, ByteArray.toList_eq]
  obtain ⟨⟨x⟩⟩ := a
  obtain ⟨⟨y⟩⟩ := b
  simp
end Go.GB
/- Plain laws, base: loops that are alike; searches; words of bits. -/
set_option linter.unusedVariables false
set_option linter.unusedSimpArgs false
namespace Go.GB
theorem loopO_step {σ ρ : Type} {b : σ → Option (σ ⊕ ρ)} {s s' : σ} (h : b s = some (.inl s')) : loopO b s = loopO b s' := by rw [loopO_eq, h]; rfl
theorem loopO_done {σ ρ : Type} {b : σ → Option (σ ⊕ ρ)} {s : σ} {r : ρ} (h : b s = some (.inr r)) : loopO b s = some r := by rw [loopO_eq, h]; rfl
theorem up_find {ρ : Type} {body : Int → Option (Int ⊕ (Unit ⊕ ρ))} {n : Nat} (p : Nat → Option ρ) (h : ∀ i : Nat, i < n → body i = some (match p i with | some r => .inr (.inr r) | none => .inl ((i + 1 : Nat) : Int))) (he : body n = some (.inr (.inl ()))) :
    loopO body 0 = some (match (List.range n).findSome? p with | some r => .inr r | none => .inl ()) := by
  have key : ∀ d i : Nat, i + d = n → loopO body i = some (match (List.range' i d).findSome? p with | some r => .inr r | none => .inl ()) := by
    intro d
    induction d with
    | zero =>
      intro i hi
      have : i = n := by omega
      subst this
      simp [loopO_done he]
    | succ d ih =>
      intro i hi
      have h1 := h i (by omega)
      rw [List.range'_succ, List.findSome?_cons]
      cases hp : p i with
      | some r => rw [hp] at h1; rw [loopO_done h1]
      | none => rw [hp] at h1; rw [loopO_step h1]; exact ih (i + 1) (by omega)
  have := key n 0 (by omega)
  rw [List.range_eq_range']
  exact this
theorem up_all {body : Int → Option (Int ⊕ (Unit ⊕ Bool))} {n : Nat} (q : Nat → Bool) (h : ∀ i : Nat, i < n → body i = some (bif q i then .inl ((i + 1 : Nat) : Int) else .inr (.inr false))) (he : body n = some (.inr (.inl ()))) :
    loopO body 0 = some (if (List.range n).all q then .inl () else .inr false) := by
  rw [up_find (fun i => if q i then none else some false) (fun i hi => by rw [h i hi]; cases q i <;> rfl) he]
  congr 1
  by_cases ha : (List.range n).all q = true
  · rw [if_pos ha]
    have : (List.range n).findSome? (fun i => if q i then none else some false) = none := by
      rw [List.findSome?_eq_none_iff]
      intro i hi
      rw [if_pos (List.all_eq_true.1 ha i hi)]
    rw [this]
  · rw [if_neg ha]
    have hx : (List.range n).all q = false := by simpa using ha
    rw [List.all_eq_false] at hx
    obtain ⟨i, hi, hq⟩ := hx
    cases hf : (List.range n).findSome? (fun i => if q i then none else some false) with
    | none =>
      rw [List.findSome?_eq_none_iff] at hf
      have := hf i hi
      rw [if_neg hq] at this; cases this
    | some b =>
      obtain ⟨j, _, hj⟩ := List.exists_of_findSome?_eq_some hf
      split at hj <;> cases hj
      rfl
theorem wrapU8 {x : Int} (h : 0 ≤ x) (h' : x < 256) : IntKind.wrap .u8 x = x := by
  unfold IntKind.wrap
  simp [IntKind.bits, IntKind.signed]
  omega
theorem wrapU64 {x : Int} (h : 0 ≤ x) (h' : x < 18446744073709551616) : IntKind.wrap .u64 x = x := by
  unfold IntKind.wrap
  simp [IntKind.bits, IntKind.signed]
  omega
theorem wrapU8_eq (x : Int) : IntKind.wrap .u8 x = x % 256 := by
  unfold IntKind.wrap
  simp [IntKind.bits, IntKind.signed]
theorem and63 : ∀ c : Fin 256, bitAnd .u8 ((c.val : Nat) : Int) 63 = ((c.val % 64 : Nat) : Int) := by decide +kernel
theorem and192 : ∀ c : Fin 256, (bitAnd .u8 ((c.val : Nat) : Int) 192 != 128) = !(decide (c.val / 64 = 2)) := by decide +kernel
theorem or128 : ∀ c : Fin 256, bitOr .u8 ((c.val : Nat) : Int) 128 = ((c.val % 128 + 128 : Nat) : Int) := by decide +kernel
theorem and31 : ∀ c : Fin 256, bitAnd .i64 ((c.val : Nat) : Int) 31 = ((c.val % 32 : Nat) : Int) := by decide +kernel
theorem and15 : ∀ c : Fin 256, bitAnd .i64 ((c.val : Nat) : Int) 15 = ((c.val % 16 : Nat) : Int) := by decide +kernel
theorem and7 : ∀ c : Fin 256, bitAnd .i64 ((c.val : Nat) : Int) 7 = ((c.val % 8 : Nat) : Int) := by decide +kernel
theorem bx_at {s : ByteArray} {i : Nat} (h : i < s.size) : bx s (i : Int) = some (((s.data.toList.getD i 0).toNat : Nat) : Int) := by
  unfold bx
  rw [if_pos ⟨by omega, by omega⟩]
  unfold byteAt
  rw [Int.toNat_natCast]
  simp [List.getD_eq_getElem?_getD]
theorem size_list (s : ByteArray) : s.data.toList.length = s.size := by rw [Array.length_toList]; rfl
theorem nil_size (s : ByteArray) : (s.toList == (⟨#[]⟩ : ByteArray).toList) = decide (s.size = 0) := size_zero_iff
end Go.GB
/- Plain laws: the document's Utf8 is the library's. -/
set_option linter.unusedVariables false
set_option linter.unusedSimpArgs false
set_option maxRecDepth 100000
namespace Go.Proofs.YtkjkkimnjpodiaaGreatDoor
open Go.GB Go.Lib
def bat (s : ByteArray) (i : Nat) : Nat := (s.data.toList.getD i 0).toNat
theorem bat_lt (s : ByteArray) (i : Nat) : bat s i < 256 := UInt8.toNat_lt _
theorem bx_bat {s : ByteArray} {i : Nat} (h : i < s.size) : bx s (i : Int) = some ((bat s i : Nat) : Int) := bx_at h
theorem fin_and {P : Nat → Prop} (h : ∀ c : Fin 256, P c.val) {n : Nat} (hn : n < 256) : P n := h ⟨n, hn⟩
theorem l79_end {s : ByteArray} {i n least r0 : Nat} {r k : Nat} (h : n < k) (hk : k < 100) : loopO (tocsinref01_Utf8_l79 s (i : Int) ((n : Int), (least : Int), (r0 : Int))) ((r : Int), (k : Int)) = some (.inl (r : Int)) := by
  refine loopO_done ?_
  unfold tocsinref01_Utf8_l79
  rw [show decide (((r : Int), (k : Int)).2 ≤ ((n : Int), (least : Int), (r0 : Int)).1) = false from decide_eq_false (by show ¬ ((k : Int) ≤ (n : Int)); omega)]
  rfl
theorem l79_step {s : ByteArray} {i n least r0 : Nat} {r k : Nat} (hs : s.size < 4611686018427387904) (hi : i < s.size) (h : k ≤ n) (hn : n ≤ 3) (hr : r < 16777216) :
    tocsinref01_Utf8_l79 s (i : Int) ((n : Int), (least : Int), (r0 : Int)) ((r : Int), (k : Int)) =
      if i + k < s.size ∧ bat s (i + k) / 64 = 2 then some (.inl (((r * 64 + bat s (i + k) % 64 : Nat) : Int), ((k + 1 : Nat) : Int))) else some (.inr (.inr (.inr (.inr (.inr false))))) := by
  unfold tocsinref01_Utf8_l79
  simp only
  rw [show decide ((k : Int) ≤ (n : Int)) = true from decide_eq_true (by omega)]
  have e1 : IntKind.wrap .i64 ((i : Int) + (k : Int)) = ((i + k : Nat) : Int) := by rw [wrap64 (by omega) (by omega)]; omega
  simp only [cond_true, e1]
  by_cases hlt : i + k < s.size
  · rw [show decide (((i + k : Nat) : Int) ≥ (s.size : Int)) = false from decide_eq_false (by omega)]
    have hb := bat_lt s (i + k)
    have h1 : (bitAnd .u8 ((bat s (i + k) : Nat) : Int) 192 != 128) = !(decide (bat s (i + k) / 64 = 2)) := fin_and (P := fun n => (bitAnd .u8 ((n : Nat) : Int) 192 != 128) = !(decide (n / 64 = 2))) and192 hb
    have h2 : bitAnd .u8 ((bat s (i + k) : Nat) : Int) 63 = ((bat s (i + k) % 64 : Nat) : Int) := fin_and (P := fun n => bitAnd .u8 ((n : Nat) : Int) 63 = ((n % 64 : Nat) : Int)) and63 hb
    simp only [cond_false, bx_bat hlt, Option.bind_some, h1, h2]
    by_cases hc : bat s (i + k) / 64 = 2
    · rw [if_pos ⟨hlt, hc⟩]
      simp only [hc, decide_true, Bool.not_true, cond_false, bx_bat hlt, Option.bind_some, h2]
      have e2 : IntKind.wrap .i64 ((r : Int) * 64) = ((r * 64 : Nat) : Int) := by rw [wrap64 (by omega) (by omega)]; omega
      have e3 : IntKind.wrap .i64 ((bat s (i + k) % 64 : Nat) : Int) = ((bat s (i + k) % 64 : Nat) : Int) := wrap64 (by omega) (by omega)
      have e4 : IntKind.wrap .i64 (((r * 64 : Nat) : Int) + ((bat s (i + k) % 64 : Nat) : Int)) = ((r * 64 + bat s (i + k) % 64 : Nat) : Int) := by rw [wrap64 (by omega) (by omega)]; omega
      have e5 : IntKind.wrap .i64 ((k : Int) + 1) = ((k + 1 : Nat) : Int) := wrap_up (by omega)
      rw [e2, e3, e4, e5]
    · rw [if_neg (fun h => hc h.2)]
      simp only [hc, decide_false, Bool.not_false, cond_true]
  · rw [show decide (((i + k : Nat) : Int) ≥ (s.size : Int)) = true from decide_eq_true (by omega), if_neg (fun h => hlt h.1)]
    simp
def leadN (c : Nat) : Option (Nat × Nat × Nat) := if 194 ≤ c ∧ c < 224 then some (1, 128, c % 32) else if 224 ≤ c ∧ c < 240 then some (2, 2048, c % 16) else if 240 ≤ c ∧ c < 245 then some (3, 65536, c % 8) else none
theorem l79_all {s : ByteArray} {i n least r0 : Nat} (hs : s.size < 4611686018427387904) (hi : i < s.size) (hn : 1 ≤ n ∧ n ≤ 3) (hr : r0 < 32) :
    loopO (tocsinref01_Utf8_l79 s (i : Int) ((n : Int), (least : Int), (r0 : Int))) ((r0 : Int), 1) =
      if (i + 1 < s.size ∧ bat s (i + 1) / 64 = 2) ∧ (2 ≤ n → i + 2 < s.size ∧ bat s (i + 2) / 64 = 2) ∧ (3 ≤ n → i + 3 < s.size ∧ bat s (i + 3) / 64 = 2) then
        some (.inl ((if n = 1 then r0 * 64 + bat s (i + 1) % 64 else if n = 2 then (r0 * 64 + bat s (i + 1) % 64) * 64 + bat s (i + 2) % 64 else ((r0 * 64 + bat s (i + 1) % 64) * 64 + bat s (i + 2) % 64) * 64 + bat s (i + 3) % 64 : Nat) : Int))
      else some (.inr (.inr (.inr (.inr false)))) := by
  have h1 := l79_step (s := s) (i := i) (n := n) (least := least) (r0 := r0) (r := r0) (k := 1) hs hi (by omega) hn.2 (by omega)
  by_cases c1 : i + 1 < s.size ∧ bat s (i + 1) / 64 = 2
  · rw [if_pos c1] at h1
    rw [show (1 : Int) = ((1 : Nat) : Int) from rfl, loopO_step h1]
    have b1 := bat_lt s (i + 1)
    by_cases n1 : n = 1
    · subst n1
      rw [l79_end (by omega) (by omega), if_pos ⟨c1, by omega, by omega⟩, if_pos rfl]
    · have h2 := l79_step (s := s) (i := i) (n := n) (least := least) (r0 := r0) (r := r0 * 64 + bat s (i + 1) % 64) (k := 2) hs hi (by omega) hn.2 (by omega)
      by_cases c2 : i + 2 < s.size ∧ bat s (i + 2) / 64 = 2
      · rw [if_pos c2] at h2
        rw [show ((1 + 1 : Nat) : Int) = ((2 : Nat) : Int) from rfl, loopO_step h2]
        have b2 := bat_lt s (i + 2)
        by_cases n2 : n = 2
        · subst n2
          rw [l79_end (by omega) (by omega), if_pos ⟨c1, fun _ => c2, by omega⟩]
          rfl
        · have h3 := l79_step (s := s) (i := i) (n := n) (least := least) (r0 := r0) (r := (r0 * 64 + bat s (i + 1) % 64) * 64 + bat s (i + 2) % 64) (k := 3) hs hi (by omega) hn.2 (by omega)
          by_cases c3 : i + 3 < s.size ∧ bat s (i + 3) / 64 = 2
          · rw [if_pos c3] at h3
            rw [show ((2 + 1 : Nat) : Int) = ((3 : Nat) : Int) from rfl, loopO_step h3, l79_end (by omega) (by omega), if_pos ⟨c1, fun _ => c2, fun _ => c3⟩, if_neg n1, if_neg n2]
          · rw [if_neg c3] at h3
            rw [show ((2 + 1 : Nat) : Int) = ((3 : Nat) : Int) from rfl, loopO_done h3, if_neg (fun h => c3 (h.2.2 (by omega)))]
      · rw [if_neg c2] at h2
        rw [show ((1 + 1 : Nat) : Int) = ((2 : Nat) : Int) from rfl, loopO_done h2, if_neg (fun h => c2 (h.2.1 (by omega)))]
  · rw [if_neg c1] at h1
    rw [show (1 : Int) = ((1 : Nat) : Int) from rfl, loopO_done h1, if_neg (fun h => c1 h.1)]
def contN (s : ByteArray) (i n least r0 : Nat) : Option Nat :=
  if (i + 1 < s.size ∧ bat s (i + 1) / 64 = 2) ∧ (2 ≤ n → i + 2 < s.size ∧ bat s (i + 2) / 64 = 2) ∧ (3 ≤ n → i + 3 < s.size ∧ bat s (i + 3) / 64 = 2) then
    (let r := if n = 1 then r0 * 64 + bat s (i + 1) % 64 else if n = 2 then (r0 * 64 + bat s (i + 1) % 64) * 64 + bat s (i + 2) % 64 else ((r0 * 64 + bat s (i + 1) % 64) * 64 + bat s (i + 2) % 64) * 64 + bat s (i + 3) % 64
     if r < least ∨ r > 1114111 ∨ (55296 ≤ r ∧ r < 57344) then none else some (i + n + 1))
  else none
def stepN (s : ByteArray) (i : Nat) : Option Nat :=
  if bat s i < 128 then some (i + 1) else match leadN (bat s i) with
    | none => none
    | some (n, least, r0) => contN s i n least r0
theorem l17_tail {s : ByteArray} {i n least r0 : Nat} (hs : s.size < 4611686018427387904) (hi : i < s.size) (hn : 1 ≤ n ∧ n ≤ 3) (hr : r0 < 32) (hl : least ≤ 65536) {X : Option ((Int) ⊕ ((Int) ⊕ ((Unit) ⊕ (Bool))))}
    (hX : X = Option.bind (loopO (tocsinref01_Utf8_l79 s (i : Int) ((n : Int), (least : Int), (r0 : Int))) ((r0 : Int), 1)) fun (r67 : (Int) ⊕ ((Int) ⊕ ((Int) ⊕ ((Unit) ⊕ (Bool))))) =>
          match r67 with
          | Sum.inl r75 => bif (((decide (r75 < (least : Int))) || (decide (r75 > 1114111))) || ((decide (r75 ≥ 55296)) && (decide (r75 < 57344)))) then
            (some (Sum.inr (Sum.inr (Sum.inr false))))
            else
            (some (Sum.inl (IntKind.wrap .i64 ((IntKind.wrap .i64 ((i : Int) + (n : Int))) + 1))))
          | Sum.inr v102 => some v102) :
    X = match contN s i n least r0 with
      | some j => some (Sum.inl (j : Int))
      | none => some (Sum.inr (Sum.inr (Sum.inr false))) := by
  subst hX
  rw [l79_all hs hi hn hr]
  unfold contN
  split
  · simp only [Option.bind_some]
    generalize (if n = 1 then r0 * 64 + bat s (i + 1) % 64 else if n = 2 then (r0 * 64 + bat s (i + 1) % 64) * 64 + bat s (i + 2) % 64 else ((r0 * 64 + bat s (i + 1) % 64) * 64 + bat s (i + 2) % 64) * 64 + bat s (i + 3) % 64) = r
    have e1 : IntKind.wrap .i64 (IntKind.wrap .i64 ((i : Int) + (n : Int)) + 1) = ((i + n + 1 : Nat) : Int) := by
      rw [wrap64 (x := (i : Int) + (n : Int)) (by omega) (by omega), wrap64 (by omega) (by omega)]; omega
    rw [e1]
    by_cases hb : r < least ∨ r > 1114111 ∨ (55296 ≤ r ∧ r < 57344)
    · rw [if_pos hb]
      have : (((decide ((r : Int) < (least : Int))) || (decide ((r : Int) > 1114111))) || ((decide ((r : Int) ≥ 55296)) && (decide ((r : Int) < 57344)))) = true := by
        simp only [Bool.or_eq_true, Bool.and_eq_true, decide_eq_true_eq]; omega
      rw [this]; rfl
    · rw [if_neg hb]
      have : (((decide ((r : Int) < (least : Int))) || (decide ((r : Int) > 1114111))) || ((decide ((r : Int) ≥ 55296)) && (decide ((r : Int) < 57344)))) = false := by
        rw [Bool.eq_false_iff]
        simp only [ne_eq, Bool.or_eq_true, Bool.and_eq_true, decide_eq_true_eq]; omega
      rw [this]; rfl
  · rfl
theorem l17_round {s : ByteArray} {i : Nat} (hs : s.size < 4611686018427387904) (hi : i < s.size) :
    tocsinref01_Utf8_l17 s (i : Int) = match stepN s i with | some j => some (.inl (j : Int)) | none => some (.inr (.inr false)) := by
  unfold tocsinref01_Utf8_l17
  have hb := bat_lt s i
  have w1 : IntKind.wrap .i64 ((bat s i : Nat) : Int) = ((bat s i : Nat) : Int) := wrap64 (by omega) (by omega)
  rw [show decide ((i : Int) < (s.size : Int)) = true from decide_eq_true (by omega)]
  simp only [cond_true, bx_bat hi, Option.bind_some, w1]
  unfold stepN
  by_cases h0 : bat s i < 128
  · rw [if_pos h0, show decide (((bat s i : Nat) : Int) < 128) = true from decide_eq_true (by omega), show IntKind.wrap .i64 ((i : Int) + 1) = ((i + 1 : Nat) : Int) from by rw [wrap64 (by omega) (by omega)]; omega]
    rfl
  · rw [if_neg h0, show decide (((bat s i : Nat) : Int) < 128) = false from decide_eq_false (by omega)]
    simp only [cond_false]
    have a31 : bitAnd .i64 ((bat s i : Nat) : Int) 31 = ((bat s i % 32 : Nat) : Int) := fin_and (P := fun n => bitAnd .i64 ((n : Nat) : Int) 31 = ((n % 32 : Nat) : Int)) and31 hb
    have a15 : bitAnd .i64 ((bat s i : Nat) : Int) 15 = ((bat s i % 16 : Nat) : Int) := fin_and (P := fun n => bitAnd .i64 ((n : Nat) : Int) 15 = ((n % 16 : Nat) : Int)) and15 hb
    have a7 : bitAnd .i64 ((bat s i : Nat) : Int) 7 = ((bat s i % 8 : Nat) : Int) := fin_and (P := fun n => bitAnd .i64 ((n : Nat) : Int) 7 = ((n % 8 : Nat) : Int)) Go.GB.and7 hb
    simp only [a31, a15, a7]
    unfold leadN
    by_cases c1 : 194 ≤ bat s i ∧ bat s i < 224
    · have : ((decide (((bat s i : Nat) : Int) ≥ 194)) && (decide (((bat s i : Nat) : Int) < 224))) = true := by simp only [Bool.and_eq_true, decide_eq_true_eq]; omega
      simp only [this, cond_true, Option.bind_some, if_pos c1]
      have hT := l17_tail (s := s) (i := i) (n := 1) (least := 128) (r0 := bat s i % 32) hs hi (by omega) (by omega) (by omega) rfl
      simp only [show ((1 : Nat) : Int) = 1 from rfl, show ((128 : Nat) : Int) = 128 from rfl] at hT
      refine Eq.trans (congrArg (fun X => Option.bind X _) hT) ?_
      cases contN s i 1 128 (bat s i % 32) <;> rfl
    · have f1 : ((decide (((bat s i : Nat) : Int) ≥ 194)) && (decide (((bat s i : Nat) : Int) < 224))) = false := by rw [Bool.eq_false_iff]; simp only [ne_eq, Bool.and_eq_true, decide_eq_true_eq]; omega
      simp only [f1, cond_false, if_neg c1]
      by_cases c2 : 224 ≤ bat s i ∧ bat s i < 240
      · have : ((decide (((bat s i : Nat) : Int) ≥ 224)) && (decide (((bat s i : Nat) : Int) < 240))) = true := by simp only [Bool.and_eq_true, decide_eq_true_eq]; omega
        simp only [this, cond_true, Option.bind_some, if_pos c2]
        have hT := l17_tail (s := s) (i := i) (n := 2) (least := 2048) (r0 := bat s i % 16) hs hi (by omega) (by omega) (by omega) rfl
        simp only [show ((2 : Nat) : Int) = 2 from rfl, show ((2048 : Nat) : Int) = 2048 from rfl] at hT
        refine Eq.trans (congrArg (fun X => Option.bind X _) hT) ?_
        cases contN s i 2 2048 (bat s i % 16) <;> rfl
      · have f2 : ((decide (((bat s i : Nat) : Int) ≥ 224)) && (decide (((bat s i : Nat) : Int) < 240))) = false := by rw [Bool.eq_false_iff]; simp only [ne_eq, Bool.and_eq_true, decide_eq_true_eq]; omega
        simp only [f2, cond_false, if_neg c2]
        by_cases c3 : 240 ≤ bat s i ∧ bat s i < 245
        · have : ((decide (((bat s i : Nat) : Int) ≥ 240)) && (decide (((bat s i : Nat) : Int) < 245))) = true := by simp only [Bool.and_eq_true, decide_eq_true_eq]; omega
          simp only [this, cond_true, Option.bind_some, if_pos c3]
          have hT := l17_tail (s := s) (i := i) (n := 3) (least := 65536) (r0 := bat s i % 8) hs hi (by omega) (by omega) (by omega) rfl
          simp only [show ((3 : Nat) : Int) = 3 from rfl, show ((65536 : Nat) : Int) = 65536 from rfl] at hT
          refine Eq.trans (congrArg (fun X => Option.bind X _) hT) ?_
          cases contN s i 3 65536 (bat s i % 8) <;> rfl
        · have f3 : ((decide (((bat s i : Nat) : Int) ≥ 240)) && (decide (((bat s i : Nat) : Int) < 245))) = false := by rw [Bool.eq_false_iff]; simp only [ne_eq, Bool.and_eq_true, decide_eq_true_eq]; omega
          simp only [f3, cond_false, if_neg c3, Option.bind_some]
theorem getD_drop (l : List UInt8) (i k : Nat) : (l.drop i).getD k 0 = l.getD (i + k) 0 := by simp [List.getD_eq_getElem?_getD, List.getElem?_drop]
theorem dec2 {n c b1 b2 b3 : Nat} (hc : 194 ≤ c ∧ c < 224) : decodeN n c b1 b2 b3 = if 1 < n ∧ b1 / 64 = 2 then (c % 32 * 64 + b1 % 64, 2) else (65533, 1) := by
  unfold decodeN
  rw [if_neg (by omega)]
  by_cases h : 1 < n ∧ b1 / 64 = 2
  · rw [if_pos ⟨by omega, h⟩, if_pos (by omega), if_pos h]
  · rw [if_neg (fun g => h g.2), if_neg (fun g => h g.2.1), if_neg (fun g => h g.2.1), if_neg h]
theorem dec3 {n c b1 b2 b3 : Nat} (hc : 224 ≤ c ∧ c < 240) : decodeN n c b1 b2 b3 = if (1 < n ∧ b1 / 64 = 2) ∧ (2 < n ∧ b2 / 64 = 2) then
    (if (c % 16 * 64 + b1 % 64) * 64 + b2 % 64 < 2048 ∨ (55296 ≤ (c % 16 * 64 + b1 % 64) * 64 + b2 % 64 ∧ (c % 16 * 64 + b1 % 64) * 64 + b2 % 64 < 57344) then (65533, 1) else ((c % 16 * 64 + b1 % 64) * 64 + b2 % 64, 3)) else (65533, 1) := by
  unfold decodeN
  rw [if_neg (by omega), if_neg (by omega)]
  by_cases h : (1 < n ∧ b1 / 64 = 2) ∧ (2 < n ∧ b2 / 64 = 2)
  · rw [if_pos ⟨by omega, h⟩, if_pos h]
    have e : c % 16 * 4096 + b1 % 64 * 64 + b2 % 64 = (c % 16 * 64 + b1 % 64) * 64 + b2 % 64 := by omega
    rw [e]
    by_cases h2 : (c % 16 * 64 + b1 % 64) * 64 + b2 % 64 < 2048 ∨ (55296 ≤ (c % 16 * 64 + b1 % 64) * 64 + b2 % 64 ∧ (c % 16 * 64 + b1 % 64) * 64 + b2 % 64 < 57344)
    · rw [if_pos h2, if_neg (by omega)]
    · rw [if_neg h2, if_pos (by omega)]
  · rw [if_neg (fun g => h g.2), if_neg (fun g => h ⟨g.2.1, g.2.2.1⟩), if_neg h]
theorem dec4 {n c b1 b2 b3 : Nat} (hc : 240 ≤ c ∧ c < 245) : decodeN n c b1 b2 b3 = if (1 < n ∧ b1 / 64 = 2) ∧ (2 < n ∧ b2 / 64 = 2) ∧ (3 < n ∧ b3 / 64 = 2) then
    (if ((c % 8 * 64 + b1 % 64) * 64 + b2 % 64) * 64 + b3 % 64 < 65536 ∨ 1114111 < ((c % 8 * 64 + b1 % 64) * 64 + b2 % 64) * 64 + b3 % 64 then (65533, 1) else (((c % 8 * 64 + b1 % 64) * 64 + b2 % 64) * 64 + b3 % 64, 4)) else (65533, 1) := by
  unfold decodeN
  rw [if_neg (by omega), if_neg (by omega), if_neg (by omega)]
  by_cases h : (1 < n ∧ b1 / 64 = 2) ∧ (2 < n ∧ b2 / 64 = 2) ∧ (3 < n ∧ b3 / 64 = 2)
  · rw [if_pos ⟨by omega, h⟩, if_pos h]
    have e : c % 8 * 262144 + b1 % 64 * 4096 + b2 % 64 * 64 + b3 % 64 = ((c % 8 * 64 + b1 % 64) * 64 + b2 % 64) * 64 + b3 % 64 := by omega
    rw [e]
    by_cases h2 : ((c % 8 * 64 + b1 % 64) * 64 + b2 % 64) * 64 + b3 % 64 < 65536 ∨ 1114111 < ((c % 8 * 64 + b1 % 64) * 64 + b2 % 64) * 64 + b3 % 64
    · rw [if_pos h2, if_neg (by omega)]
    · rw [if_neg h2, if_pos (by omega)]
  · rw [if_neg (fun g => h g.2), if_neg h]
set_option maxHeartbeats 1000000 in
theorem stepN_valid {s : ByteArray} {i : Nat} (hi : i < s.size) : validD (s.data.toList.drop i) = match stepN s i with | some j => validD (s.data.toList.drop j) | none => false := by
  have hl : s.data.toList.length = s.size := size_list s
  have hne : s.data.toList.drop i ≠ [] := by intro h; have := congrArg List.length h; simp at this; omega
  have hlen : (s.data.toList.drop i).length = s.size - i := by rw [List.length_drop, hl]
  rw [validD_step _ hne, decodeL_N, hlen]
  simp only [getD_drop, Nat.add_zero]
  have b0 := bat_lt s i
  change (if (decodeN (s.size - i) (bat s i) (bat s (i + 1)) (bat s (i + 2)) (bat s (i + 3))).1 = 65533 ∧ (decodeN (s.size - i) (bat s i) (bat s (i + 1)) (bat s (i + 2)) (bat s (i + 3))).2 = 1 then false else validD ((s.data.toList.drop i).drop (decodeN (s.size - i) (bat s i) (bat s (i + 1)) (bat s (i + 2)) (bat s (i + 3))).2)) = _
  rw [List.drop_drop]
  unfold stepN leadN
  by_cases h0 : bat s i < 128
  · rw [if_pos h0, show decodeN (s.size - i) (bat s i) (bat s (i + 1)) (bat s (i + 2)) (bat s (i + 3)) = (bat s i, 1) from by unfold decodeN; rw [if_pos h0]]
    rw [if_neg (by simp; omega)]
  · rw [if_neg h0]
    by_cases c1 : 194 ≤ bat s i ∧ bat s i < 224
    · rw [if_pos c1, dec2 c1]
      show _ = match contN s i 1 128 (bat s i % 32) with | some j => validD (s.data.toList.drop j) | none => false
      by_cases k1 : i + 1 < s.size ∧ bat s (i + 1) / 64 = 2
      · have e : contN s i 1 128 (bat s i % 32) = some (i + 1 + 1) := by
          unfold contN
          rw [if_pos ⟨k1, by omega, by omega⟩]
          simp only [if_true]
          rw [if_neg (by omega)]
        rw [e, if_pos (show 1 < s.size - i ∧ bat s (i + 1) / 64 = 2 from ⟨by omega, k1.2⟩), if_neg (by simp)]; rfl
      · have e : contN s i 1 128 (bat s i % 32) = none := by
          unfold contN
          rw [if_neg (fun g => k1 g.1)]
        rw [e, if_neg (show ¬ (1 < s.size - i ∧ bat s (i + 1) / 64 = 2) from fun g => k1 ⟨by omega, g.2⟩), if_pos ⟨rfl, rfl⟩]
    · rw [if_neg c1]
      by_cases c2 : 224 ≤ bat s i ∧ bat s i < 240
      · rw [if_pos c2, dec3 c2]
        show _ = match contN s i 2 2048 (bat s i % 16) with | some j => validD (s.data.toList.drop j) | none => false
        by_cases k1 : (i + 1 < s.size ∧ bat s (i + 1) / 64 = 2) ∧ (i + 2 < s.size ∧ bat s (i + 2) / 64 = 2)
        · rw [if_pos (show (1 < s.size - i ∧ bat s (i + 1) / 64 = 2) ∧ (2 < s.size - i ∧ bat s (i + 2) / 64 = 2) from ⟨⟨by omega, k1.1.2⟩, by omega, k1.2.2⟩)]
          by_cases k2 : (bat s i % 16 * 64 + bat s (i + 1) % 64) * 64 + bat s (i + 2) % 64 < 2048 ∨ (55296 ≤ (bat s i % 16 * 64 + bat s (i + 1) % 64) * 64 + bat s (i + 2) % 64 ∧ (bat s i % 16 * 64 + bat s (i + 1) % 64) * 64 + bat s (i + 2) % 64 < 57344)
          · have e : contN s i 2 2048 (bat s i % 16) = none := by
              unfold contN
              rw [if_pos ⟨k1.1, fun _ => k1.2, by omega⟩]
              simp only [show ¬ (2 : Nat) = 1 from by omega, if_false, if_true]
              rw [if_pos (by omega)]
            rw [e, if_pos k2, if_pos ⟨rfl, rfl⟩]
          · have e : contN s i 2 2048 (bat s i % 16) = some (i + 2 + 1) := by
              unfold contN
              rw [if_pos ⟨k1.1, fun _ => k1.2, by omega⟩]
              simp only [show ¬ (2 : Nat) = 1 from by omega, if_false, if_true]
              rw [if_neg (by omega)]
            rw [e, if_neg k2, if_neg (by simp)]; rfl
        · have e : contN s i 2 2048 (bat s i % 16) = none := by
            unfold contN
            rw [if_neg (fun g => k1 ⟨g.1, g.2.1 (by omega)⟩)]
          rw [e, if_neg (show ¬ ((1 < s.size - i ∧ bat s (i + 1) / 64 = 2) ∧ (2 < s.size - i ∧ bat s (i + 2) / 64 = 2)) from fun g => k1 ⟨⟨by omega, g.1.2⟩, by omega, g.2.2⟩), if_pos ⟨rfl, rfl⟩]
      · rw [if_neg c2]
        by_cases c3 : 240 ≤ bat s i ∧ bat s i < 245
        · rw [if_pos c3, dec4 c3]
          show _ = match contN s i 3 65536 (bat s i % 8) with | some j => validD (s.data.toList.drop j) | none => false
          by_cases k1 : (i + 1 < s.size ∧ bat s (i + 1) / 64 = 2) ∧ (i + 2 < s.size ∧ bat s (i + 2) / 64 = 2) ∧ (i + 3 < s.size ∧ bat s (i + 3) / 64 = 2)
          · rw [if_pos (show (1 < s.size - i ∧ bat s (i + 1) / 64 = 2) ∧ (2 < s.size - i ∧ bat s (i + 2) / 64 = 2) ∧ (3 < s.size - i ∧ bat s (i + 3) / 64 = 2) from ⟨⟨by omega, k1.1.2⟩, ⟨by omega, k1.2.1.2⟩, by omega, k1.2.2.2⟩)]
            by_cases k2 : ((bat s i % 8 * 64 + bat s (i + 1) % 64) * 64 + bat s (i + 2) % 64) * 64 + bat s (i + 3) % 64 < 65536 ∨ 1114111 < ((bat s i % 8 * 64 + bat s (i + 1) % 64) * 64 + bat s (i + 2) % 64) * 64 + bat s (i + 3) % 64
            · have e : contN s i 3 65536 (bat s i % 8) = none := by
                unfold contN
                rw [if_pos ⟨k1.1, fun _ => k1.2.1, fun _ => k1.2.2⟩]
                simp only [show ¬ (3 : Nat) = 1 from by omega, show ¬ (3 : Nat) = 2 from by omega, if_false]
                rw [if_pos (by omega)]
              rw [e, if_pos k2, if_pos ⟨rfl, rfl⟩]
            · have e : contN s i 3 65536 (bat s i % 8) = some (i + 3 + 1) := by
                unfold contN
                rw [if_pos ⟨k1.1, fun _ => k1.2.1, fun _ => k1.2.2⟩]
                simp only [show ¬ (3 : Nat) = 1 from by omega, show ¬ (3 : Nat) = 2 from by omega, if_false]
                rw [if_neg (by omega)]
              rw [e, if_neg k2, if_neg (by simp)]; rfl
          · have e : contN s i 3 65536 (bat s i % 8) = none := by
              unfold contN
              rw [if_neg (fun g => k1 ⟨g.1, g.2.1 (by omega), g.2.2 (by omega)⟩)]
            rw [e, if_neg (show ¬ ((1 < s.size - i ∧ bat s (i + 1) / 64 = 2) ∧ (2 < s.size - i ∧ bat s (i + 2) / 64 = 2) ∧ (3 < s.size - i ∧ bat s (i + 3) / 64 = 2)) from fun g => k1 ⟨⟨by omega, g.1.2⟩, ⟨by omega, g.2.1.2⟩, by omega, g.2.2.2⟩), if_pos ⟨rfl, rfl⟩]
        · rw [if_neg c3, decodeN_bad _ _ _ _ _ (by omega)]
          simp
theorem contN_some {s : ByteArray} {i n least r0 j : Nat} (h : contN s i n least r0 = some j) : j = i + n + 1 ∧ (i + 1 < s.size ∧ bat s (i + 1) / 64 = 2) ∧ (2 ≤ n → i + 2 < s.size ∧ bat s (i + 2) / 64 = 2) ∧ (3 ≤ n → i + 3 < s.size ∧ bat s (i + 3) / 64 = 2) := by
  unfold contN at h
  split at h
  · rename_i hc
    refine ⟨?_, hc⟩
    have : ∀ (p : Prop) [Decidable p], (if p then none else some (i + n + 1)) = some j → j = i + n + 1 := fun p _ hp => by
      split at hp <;> cases hp
      rfl
    exact this _ h
  · cases h
theorem stepN_up {s : ByteArray} {i j : Nat} (h : stepN s i = some j) : i < j := by
  unfold stepN at h
  split at h
  · cases h; omega
  · split at h
    · cases h
    · have := (contN_some h).1; omega
theorem stepN_le {s : ByteArray} {i j : Nat} (hi : i < s.size) (h : stepN s i = some j) : j ≤ s.size := by
  unfold stepN at h
  split at h
  · cases h; omega
  · unfold leadN at h
    split at h
    · cases h
    · rename_i n least r0 hl
      obtain ⟨rfl, h1, h2, h3⟩ := contN_some h
      split at hl
      · cases hl; omega
      · split at hl
        · cases hl; have := h2 (by omega); omega
        · split at hl
          · cases hl; have := h3 (by omega); omega
          · cases hl
theorem utf8_loop {s : ByteArray} (hs : s.size < 4611686018427387904) : ∀ d i : Nat, s.size - i = d → i ≤ s.size → loopO (tocsinref01_Utf8_l17 s) (i : Int) = some (if validD (s.data.toList.drop i) then .inl () else .inr false) := by
  intro d
  induction d using Nat.strongRecOn with
  | _ d ih =>
    intro i hd hi
    by_cases hlt : i < s.size
    · have hr := l17_round hs hlt
      have hv := stepN_valid hlt
      cases hn : stepN s i with
      | none =>
        rw [hn] at hr hv
        rw [loopO_done hr, hv]; rfl
      | some j =>
        rw [hn] at hr hv
        have h1 := stepN_up hn
        have h2 := stepN_le hlt hn
        rw [loopO_step hr, hv]
        exact ih (s.size - j) (by omega) j rfl h2
    · have : i = s.size := by omega
      subst this
      have he : tocsinref01_Utf8_l17 s (s.size : Int) = some (.inr (.inl ())) := by
        unfold tocsinref01_Utf8_l17
        rw [show decide ((s.size : Int) < (s.size : Int)) = false from decide_eq_false (by omega)]
        rfl
      rw [loopO_done he]
      rw [show s.data.toList.drop s.size = [] from List.drop_eq_nil_of_le (Nat.le_of_eq (size_list s))]
      rfl
theorem refUtf8_eq {s : ByteArray} (hs : s.size < 4611686018427387904) : tocsinref01_Utf8 s = some (validD s.data.toList) := by
  unfold tocsinref01_Utf8
  have := utf8_loop hs s.size 0 (by omega) (by omega)
  rw [show ((0 : Nat) : Int) = 0 from rfl, List.drop_zero] at this
  rw [this]
  cases validD s.data.toList <;> rfl
theorem valid_eq {s : ByteArray} (hs : s.size < 4611686018427387904) : utf8_ValidString s = some (validD s.data.toList) := by
  unfold utf8_ValidString
  rw [if_pos (by omega)]
end Go.Proofs.YtkjkkimnjpodiaaGreatDoor
/- Plain laws, base: the order of texts. -/
set_option linter.unusedVariables false
set_option linter.unusedSimpArgs false
namespace Go.GB
open Go.Lib
theorem cb_self : ∀ a : List UInt8, compareBytes a a = 0
  | [] => rfl
  | a :: xs => by unfold compareBytes; rw [if_neg (UInt8.lt_irrefl a), if_neg (UInt8.lt_irrefl a)]; exact cb_self xs
theorem cb_swap : ∀ a b : List UInt8, compareBytes b a = - compareBytes a b
  | [], [] => rfl
  | [], _ :: _ => rfl
  | _ :: _, [] => rfl
  | a :: xs, b :: ys => by
    unfold compareBytes
    by_cases h1 : a < b
    · have h2 : ¬ b < a := fun h => UInt8.lt_irrefl a (UInt8.lt_trans h1 h)
      rw [if_pos h1, if_neg h2, if_pos h1]; rfl
    · by_cases h2 : b < a
      · rw [if_pos h2, if_neg h1, if_pos h2]
      · rw [if_neg h2, if_neg h1, if_neg h1, if_neg h2]; exact cb_swap xs ys
theorem u8_eq {a b : UInt8} (h1 : ¬ a < b) (h2 : ¬ b < a) : a = b := UInt8.le_antisymm (UInt8.not_lt.1 h2) (UInt8.not_lt.1 h1)
theorem cb_zero : ∀ a b : List UInt8, compareBytes a b = 0 → a = b
  | [], [], _ => rfl
  | [], _ :: _, h => by simp [compareBytes] at h
  | _ :: _, [], h => by simp [compareBytes] at h
  | a :: xs, b :: ys, h => by
    unfold compareBytes at h
    by_cases h1 : a < b
    · rw [if_pos h1] at h; cases h
    · by_cases h2 : b < a
      · rw [if_neg h1, if_pos h2] at h; cases h
      · rw [if_neg h1, if_neg h2] at h
        rw [cb_zero xs ys h, u8_eq h1 h2]
theorem cb_range : ∀ a b : List UInt8, compareBytes a b = -1 ∨ compareBytes a b = 0 ∨ compareBytes a b = 1
  | [], [] => by simp [compareBytes]
  | [], _ :: _ => by simp [compareBytes]
  | _ :: _, [] => by simp [compareBytes]
  | a :: xs, b :: ys => by
    unfold compareBytes
    split
    · simp
    · split
      · simp
      · exact cb_range xs ys
theorem cb_less : ∀ a b : List UInt8, Op.bytesLess a b = decide (compareBytes a b = -1)
  | [], [] => by simp [compareBytes, Op.bytesLess]
  | [], _ :: _ => by simp [compareBytes, Op.bytesLess]
  | _ :: _, [] => by simp [compareBytes, Op.bytesLess]
  | a :: xs, b :: ys => by
    unfold compareBytes Op.bytesLess
    by_cases h1 : a < b
    · simp [h1]
    · by_cases h2 : b < a
      · have h3 : (a == b) = false := by
          rw [beq_eq_false_iff_ne]; rintro rfl; exact h1 h2
        simp [h1, h2, h3]
      · have h3 := u8_eq h1 h2
        subst h3
        simp [h1, cb_less xs ys]
theorem cb_trans : ∀ a b c : List UInt8, compareBytes a b = -1 → compareBytes b c = -1 → compareBytes a c = -1
  | [], [], _, h, _ => by simp [compareBytes] at h
  | [], _ :: _, [], _, h => by simp [compareBytes] at h
  | [], _ :: _, _ :: _, _, _ => by simp [compareBytes]
  | _ :: _, [], _, h, _ => by simp [compareBytes] at h
  | _ :: _, _ :: _, [], _, h => by simp [compareBytes] at h
  | a :: xs, b :: ys, c :: zs, h, k => by
    unfold compareBytes at h k ⊢
    by_cases h1 : a < b
    · by_cases h3 : b < c
      · rw [if_pos (UInt8.lt_trans h1 h3)]
      · by_cases h4 : c < b
        · rw [if_neg h3, if_pos h4] at k; cases k
        · rw [← u8_eq h3 h4, if_pos h1]
    · by_cases h2 : b < a
      · rw [if_neg h1, if_pos h2] at h; cases h
      · have e := u8_eq h1 h2
        subst e
        rw [if_neg h1, if_neg h1] at h
        by_cases h3 : a < c
        · rw [if_pos h3]
        · by_cases h4 : c < a
          · rw [if_neg h3, if_pos h4] at k; cases k
          · rw [if_neg h3, if_neg h4] at k
            rw [if_neg h3, if_neg h4]
            exact cb_trans xs ys zs h k
def cmpS (a b : ByteArray) : Int := compareBytes a.data.toList b.data.toList
theorem cmpS_self (a : ByteArray) : cmpS a a = 0 := cb_self _
theorem cmpS_swap (a b : ByteArray) : cmpS b a = - cmpS a b := cb_swap _ _
theorem ba_eq {a b : ByteArray} (h : a.data.toList = b.data.toList) : a = b := by
  obtain ⟨⟨x⟩⟩ := a
  obtain ⟨⟨y⟩⟩ := b
  simpa using h
theorem cmpS_zero {a b : ByteArray} (h : cmpS a b = 0) : a = b := ba_eq (cb_zero _ _ h)
theorem cmpS_range (a b : ByteArray) : cmpS a b = -1 ∨ cmpS a b = 0 ∨ cmpS a b = 1 := cb_range _ _
theorem cmpS_trans {a b c : ByteArray} (h : cmpS a b = -1) (k : cmpS b c = -1) : cmpS a c = -1 := cb_trans _ _ _ h k
theorem toList_eq (a : ByteArray) : a.toList = a.data.toList := ByteArray.toList_eq a
theorem less_eq (a b : ByteArray) : Op.bytesLess a.toList b.toList = decide (cmpS a b = -1) := by rw [toList_eq, toList_eq]; exact cb_less _ _
theorem beq_eq (a b : ByteArray) : (a.toList == b.toList) = decide (cmpS a b = 0) := by
  rw [Bool.eq_iff_iff, toList_inj, decide_eq_true_iff]
  exact ⟨fun h => by rw [h]; exact cmpS_self _, cmpS_zero⟩
end Go.GB
/- Plain laws: names, values, label sets: the program's are the document's. -/
set_option linter.unusedVariables false
set_option linter.unusedSimpArgs false
set_option maxRecDepth 100000
namespace Go.Proofs.YtkjkkimnjpodiaaGreatDoor
open Go.GB Go.Lib
theorem ix_bytes {s : ByteArray} {i : Nat} (h : i < s.size) : ix (bytesOf s) (i : Int) = some ((bat s i : Nat) : Int) := by
  rw [ix_nat]
  unfold bytesOf bat
  have : i < s.data.toList.length := by rw [size_list]; exact h
  rw [List.getElem?_map, List.getElem?_eq_getElem this, List.getD_eq_getElem?_getD, List.getElem?_eq_getElem this]
  rfl
noncomputable def namedB (s : ByteArray) (most : Nat) (colon : Bool) : Bool := decide (s.size ≠ 0) && (decide (s.size ≤ most) && (!labels_digit (bat s 0) && (List.range s.size).all fun i => labels_letter (bat s i) || (labels_digit (bat s i) || (colon && ((bat s i : Nat) : Int) == 58))))
theorem named_eq (s : ByteArray) {most : Nat} (hm : most ≤ 2147483648) (colon : Bool) : labels_named s (most : Int) colon = some (namedB s most colon) := by
  unfold labels_named namedB
  rw [nil_size]
  by_cases h0 : s.size = 0
  · simp [h0]
  · by_cases h1 : s.size ≤ most
    · have e1 : decide ((s.size : Int) > (most : Int)) = false := decide_eq_false (by omega)
      have e2 : bx s 0 = some ((bat s 0 : Nat) : Int) := bx_bat (i := 0) (by omega)
      simp only [h0, decide_false, cond_false, e1, e2, Option.bind_some, not_false_eq_true, ne_eq, decide_true, h1, Bool.true_and]
      cases hd : labels_digit ((bat s 0 : Nat) : Int) with
      | true => simp
      | false =>
        have e3 : sb s = some (bytesOf s) := by unfold sb maxLen'; rw [if_pos (by omega)]
        simp only [cond_false, e3, Option.bind_some, Bool.not_false, Bool.true_and]
        rw [up_all (n := s.size) (fun i => labels_letter (bat s i) || (labels_digit (bat s i) || (colon && ((bat s i : Nat) : Int) == 58))) (fun i hi => ?_) ?_]
        · simp only [Option.bind_some]
          cases (List.range s.size).all fun i => labels_letter (bat s i) || (labels_digit (bat s i) || (colon && ((bat s i : Nat) : Int) == 58)) <;> rfl
        · unfold labels_named_l33
          rw [show decide ((s.size : Int) < ((bytesOf s).length : Int)) = false from decide_eq_false (by rw [bytesOf_length]; omega)]
          rfl
        · unfold labels_named_l33
          rw [show decide ((i : Int) < ((bytesOf s).length : Int)) = true from decide_eq_true (by rw [bytesOf_length]; omega)]
          simp only [cond_true, ix_bytes hi, Option.bind_some, wrap_up (show i < 4294967296 by omega)]
          cases labels_letter ((bat s i : Nat) : Int) <;> cases labels_digit ((bat s i : Nat) : Int) <;> cases (colon && ((bat s i : Nat) : Int) == 58) <;> rfl
    · have e1 : decide ((s.size : Int) > (most : Int)) = true := decide_eq_true (by omega)
      simp only [h0, h1, decide_false, decide_true, cond_false, e1, cond_true, Option.bind_some, ne_eq, not_false_eq_true, Bool.false_and, Bool.and_false]
theorem Name_eq (s : ByteArray) : labels_Name s = some (namedB s 64 false) := by
  unfold labels_Name
  rw [show (64 : Int) = ((64 : Nat) : Int) from rfl, named_eq s (by omega) false]
  rfl
theorem let_not_dig (c : Int) : labels_letter c = true → labels_digit c = false := by
  unfold labels_letter labels_digit
  intro h
  rw [Bool.eq_false_iff]
  simp only [Bool.or_eq_true, Bool.and_eq_true, decide_eq_true_eq, beq_iff_eq] at h
  simp only [ne_eq, Bool.and_eq_true, decide_eq_true_eq]
  omega
theorem refName_eq (s : ByteArray) : tocsinref04_Name s = some (namedB s 64 false) := by
  unfold tocsinref04_Name namedB
  rw [nil_size]
  by_cases h0 : s.size = 0
  · simp [h0]
  · by_cases h1 : s.size ≤ 64
    · have e1 : decide ((s.size : Int) > 64) = false := decide_eq_false (by omega)
      simp only [h0, decide_false, e1, Bool.or_self, cond_false, not_false_eq_true, ne_eq, decide_true, h1, Bool.true_and]
      have hq : (!labels_digit ((bat s 0 : Nat) : Int) && (List.range s.size).all fun i => labels_letter (bat s i) || (labels_digit (bat s i) || (false && ((bat s i : Nat) : Int) == 58))) = (List.range s.size).all fun i => labels_letter (bat s i) || (decide (i ≠ 0) && labels_digit (bat s i)) := by
        rw [Bool.eq_iff_iff, Bool.and_eq_true, List.all_eq_true, List.all_eq_true]
        constructor
        · rintro ⟨h2, h3⟩ i hi
          have := h3 i hi
          by_cases hi0 : i = 0
          · subst hi0
            simp only [Bool.not_eq_true'] at h2
            simpa [h2] using this
          · simpa [hi0] using this
        · intro h3
          refine ⟨?_, fun i hi => ?_⟩
          · have := h3 0 (List.mem_range.2 (by omega))
            simp only [ne_eq, not_true_eq_false, decide_false, Bool.false_and, Bool.or_false] at this
            rw [let_not_dig _ this]; rfl
          · have := h3 i hi
            simp only [Bool.or_eq_true, Bool.and_eq_true] at this ⊢
            rcases this with h | h
            · exact .inl h
            · exact .inr (.inl h.2)
      rw [hq, up_all (n := s.size) (fun i => labels_letter (bat s i) || (decide (i ≠ 0) && labels_digit (bat s i))) (fun i hi => ?_) ?_]
      · simp only [Option.bind_some]
        cases (List.range s.size).all fun i => labels_letter (bat s i) || (decide (i ≠ 0) && labels_digit (bat s i)) <;> rfl
      · unfold tocsinref04_Name_l24
        rw [show decide ((s.size : Int) < (s.size : Int)) = false from decide_eq_false (by omega)]
        rfl
      · unfold tocsinref04_Name_l24
        rw [show decide ((i : Int) < (s.size : Int)) = true from decide_eq_true (by omega)]
        have el : ∀ c, tocsinref04_letter c = labels_letter c := fun _ => rfl
        have ed : ∀ c, tocsinref04_digit c = labels_digit c := fun _ => rfl
        simp only [cond_true, bx_bat hi, Option.bind_some, wrap_up (show i < 4294967296 by omega), el, ed]
        by_cases hi0 : i = 0
        · subst hi0
          cases labels_letter ((bat s 0 : Nat) : Int) <;> rfl
        · have e2 : ((i : Int) == 0) = false := by rw [beq_eq_false_iff_ne]; omega
          simp only [e2, hi0, cond_false]
          cases labels_letter ((bat s i : Nat) : Int) <;> cases labels_digit ((bat s i : Nat) : Int) <;> simp [hi0]
    · have e1 : decide ((s.size : Int) > 64) = true := decide_eq_true (by omega)
      simp only [e1, h1, Bool.or_true, cond_true, decide_false, Bool.false_and, Bool.and_false]
noncomputable def valueE (s : ByteArray) : Int := if s.size = 0 then 41 else if s.size > 256 then 4 else if validD s.data.toList then 0 else 12
theorem value_eq (s : ByteArray) : labels_value s = some (valueE s) := by
  unfold labels_value valueE
  rw [nil_size]
  by_cases h0 : s.size = 0
  · simp [h0]
  · by_cases h1 : s.size > 256
    · simp [h0, h1, show decide ((s.size : Int) > 256) = true from decide_eq_true (by omega)]
    · have e1 : decide ((s.size : Int) > 256) = false := decide_eq_false (by omega)
      simp only [h0, decide_false, cond_false, e1, valid_eq (show s.size < 4611686018427387904 by omega), Option.bind_some, if_false, h1]
      cases validD s.data.toList <;> rfl
noncomputable def oneE (x : S76) : Int := if namedB x.f0 64 false then valueE x.f1 else 40
theorem refOne_eq (x : S76) : tocsinref04_one x = some (oneE x) := by
  unfold tocsinref04_one oneE
  rw [refName_eq, nil_size]
  simp only [Option.bind_some]
  cases namedB x.f0 64 false with
  | false => rfl
  | true =>
    simp only [Bool.not_true, cond_false, if_true]
    unfold valueE
    by_cases h0 : x.f1.size = 0
    · simp [h0]
    · by_cases h1 : x.f1.size > 256
      · simp [h0, h1, show decide ((x.f1.size : Int) > 256) = true from decide_eq_true (by omega)]
      · have e1 : decide ((x.f1.size : Int) > 256) = false := decide_eq_false (by omega)
        simp only [h0, decide_false, cond_false, e1, refUtf8_eq (show x.f1.size < 4611686018427387904 by omega), Option.bind_some, if_false, h1]
        cases validD x.f1.data.toList <;> rfl
noncomputable def faultAt (l : List S76) (i : Nat) : Option (Int × Int) := match l[i]? with
  | none => none
  | some x => if oneE x ≠ 0 then some (oneE x, (i : Int)) else if i = 0 then none else match l[i - 1]? with
    | none => none
    | some y => if cmpS y.f0 x.f0 = -1 then none else some (3, (i : Int))
noncomputable def rightE (l : List S76) : Int × Int := if l.length > 16 then (8, 0) else ((List.range l.length).findSome? (faultAt l)).getD (0, 0)
theorem oneE_ne {x : S76} (h : namedB x.f0 64 false = false) : oneE x = 40 := by unfold oneE; rw [h]; rfl
theorem ix_prev {α : Type} {l : List α} {i : Nat} (h0 : 0 < i) (hi : i < 4294967296) : ix l (IntKind.wrap .i64 ((i : Int) - 1)) = l[i - 1]? := by
  rw [wrap64 (by omega) (by omega), show (i : Int) - 1 = ((i - 1 : Nat) : Int) by omega, ix_nat]
theorem Right_eq (l : List S76) : labels_Right l = some (rightE l) := by
  unfold labels_Right rightE
  by_cases hl : l.length > 16
  · simp [hl, show decide ((l.length : Int) > 16) = true from decide_eq_true (by omega)]
  · rw [show decide ((l.length : Int) > 16) = false from decide_eq_false (by omega), if_neg hl]
    simp only [cond_false]
    rw [up_find (n := l.length) (faultAt l) (fun i hi => ?_) ?_]
    · simp only [Option.bind_some]
      cases (List.range l.length).findSome? (faultAt l) <;> rfl
    · unfold labels_Right_l18
      rw [show decide ((l.length : Int) < (l.length : Int)) = false from decide_eq_false (by omega)]
      rfl
    · unfold labels_Right_l18 faultAt
      have hx : l[i]? = some l[i] := List.getElem?_eq_getElem hi
      rw [show decide ((i : Int) < (l.length : Int)) = true from decide_eq_true (by omega)]
      simp only [cond_true, ix_nat, hx, Option.bind_some, Name_eq, value_eq]
      cases hn : namedB l[i].f0 64 false with
      | false => rw [oneE_ne hn]; rfl
      | true =>
        have ho : oneE l[i] = valueE l[i].f1 := by unfold oneE; rw [hn]; rfl
        rw [ho]
        simp only [Bool.not_true, cond_false]
        by_cases hv : valueE l[i].f1 = 0
        · have e2 : (valueE l[i].f1 != 0) = false := by simp [hv]
          rw [if_neg (by simpa using hv)]
          simp only [e2, cond_false, wrap_up (show i < 4294967296 by omega)]
          by_cases hi0 : i = 0
          · subst hi0
            simp
          · have e3 : decide ((i : Int) > 0) = true := decide_eq_true (by omega)
            have hy : l[i - 1]? = some (l[i - 1]'(by omega)) := List.getElem?_eq_getElem (by omega)
            rw [if_neg hi0]
            simp only [e3, cond_true, ix_prev (show 0 < i by omega) (show i < 4294967296 by omega), hy, Option.bind_some, less_eq, beq_eq]
            have hs := cmpS_swap (l[i - 1]'(by omega)).f0 l[i].f0
            have hr := cmpS_range (l[i - 1]'(by omega)).f0 l[i].f0
            by_cases hc : cmpS (l[i - 1]'(by omega)).f0 l[i].f0 = -1
            · rw [if_pos hc]
              have : (decide (cmpS l[i].f0 (l[i - 1]'(by omega)).f0 = -1) || decide (cmpS l[i].f0 (l[i - 1]'(by omega)).f0 = 0)) = false := by
                rw [Bool.eq_false_iff]; simp only [ne_eq, Bool.or_eq_true, decide_eq_true_eq]; omega
              rw [this]; rfl
            · rw [if_neg hc]
              have : (decide (cmpS l[i].f0 (l[i - 1]'(by omega)).f0 = -1) || decide (cmpS l[i].f0 (l[i - 1]'(by omega)).f0 = 0)) = true := by
                simp only [Bool.or_eq_true, decide_eq_true_eq]; omega
              rw [this]; rfl
        · have e2 : (valueE l[i].f1 != 0) = true := by simpa using hv
          rw [if_pos hv]
          simp only [e2, cond_true]
theorem refRight_eq (l : List S76) : tocsinref04_Right l = some (rightE l) := by
  unfold tocsinref04_Right rightE
  by_cases hl : l.length > 16
  · simp [hl, show decide ((l.length : Int) > 16) = true from decide_eq_true (by omega)]
  · rw [show decide ((l.length : Int) > 16) = false from decide_eq_false (by omega), if_neg hl]
    simp only [cond_false]
    rw [up_find (n := l.length) (faultAt l) (fun i hi => ?_) ?_]
    · simp only [Option.bind_some]
      cases (List.range l.length).findSome? (faultAt l) <;> rfl
    · unfold tocsinref04_Right_l18
      rw [show decide ((l.length : Int) < (l.length : Int)) = false from decide_eq_false (by omega)]
      rfl
    · unfold tocsinref04_Right_l18 faultAt
      have hx : l[i]? = some l[i] := List.getElem?_eq_getElem hi
      rw [show decide ((i : Int) < (l.length : Int)) = true from decide_eq_true (by omega)]
      simp only [cond_true, ix_nat, hx, Option.bind_some, refOne_eq]
      by_cases hv : oneE l[i] = 0
      · have e2 : (oneE l[i] != 0) = false := by simp [hv]
        rw [if_neg (by simpa using hv)]
        simp only [e2, cond_false, wrap_up (show i < 4294967296 by omega)]
        by_cases hi0 : i = 0
        · subst hi0
          simp
        · have e3 : decide ((i : Int) > 0) = true := decide_eq_true (by omega)
          have hy : l[i - 1]? = some (l[i - 1]'(by omega)) := List.getElem?_eq_getElem (by omega)
          rw [if_neg hi0]
          simp only [e3, cond_true, ix_prev (show 0 < i by omega) (show i < 4294967296 by omega), hy, Option.bind_some, less_eq]
          by_cases hc : cmpS (l[i - 1]'(by omega)).f0 l[i].f0 = -1
          · rw [if_pos hc, decide_eq_true hc]; rfl
          · rw [if_neg hc, decide_eq_false hc]; rfl
      · have e2 : (oneE l[i] != 0) = true := by simpa using hv
        rw [if_pos hv]
        simp only [e2, cond_true]
end Go.Proofs.YtkjkkimnjpodiaaGreatDoor
/- Plain laws, base: words of bits; numbers in few bytes. -/
set_option linter.unusedVariables false
set_option linter.unusedSimpArgs false
namespace Go.GB
theorem shr_nat (k : IntKind) (a n : Nat) (hn : n ≤ k.bits) : shr k (a : Int) (n : Int) = ((a / 2 ^ n : Nat) : Int) := by
  unfold shr
  rw [Int.toNat_natCast, Nat.min_eq_left hn, Int.fdiv_eq_ediv_of_nonneg _ (by exact Int.pow_nonneg (by omega))]
  norm_cast
def uvF : Nat → Nat → List Int
  | 0, _ => []
  | f + 1, n => if n < 128 then [(n : Int)] else ((n % 128 + 128 : Nat) : Int) :: uvF f (n / 128)
def uv (n : Nat) : List Int := uvF 10 n
theorem uvF_len : ∀ f n : Nat, (uvF f n).length ≤ f
  | 0, _ => by simp [uvF]
  | f + 1, n => by
    unfold uvF
    split
    · simp
    · have := uvF_len f (n / 128); simp; omega
theorem uv_len (n : Nat) : (uv n).length ≤ 10 := uvF_len 10 n
theorem uv_byte : ∀ f n : Nat, ∀ x ∈ uvF f n, 0 ≤ x ∧ x < 256
  | 0, _, x, h => by simp [uvF] at h
  | f + 1, n, x, h => by
    unfold uvF at h
    split at h
    · simp at h; omega
    · rcases List.mem_cons.1 h with rfl | h
      · omega
      · exact uv_byte f _ x h
theorem putu_loop {body : Int × List Int → Option ((Int × List Int) ⊕ (Int × List Int))} (h : ∀ (n : Nat) (acc : List Int), n < 18446744073709551616 → body ((n : Int), acc) = if n < 128 then some (.inr ((n : Int), acc)) else Option.bind (app acc [((n % 128 + 128 : Nat) : Int)]) fun z => some (.inl (((n / 128 : Nat) : Int), z))) :
    ∀ (f n : Nat) (acc : List Int), n < 128 ^ f → n < 18446744073709551616 → acc.length + f ≤ 2147483648 → 0 < f → ∃ (m : Nat) (acc' : List Int), m < 128 ∧ loopO body ((n : Int), acc) = some ((m : Int), acc') ∧ acc' ++ [(m : Int)] = acc ++ uvF f n ∧ acc'.length + 1 ≤ acc.length + f := by
  intro f
  induction f with
  | zero => intro n acc _ _ _ h0; omega
  | succ f ih =>
    intro n acc hn hn2 hl _
    have hb := h n acc hn2
    by_cases hlt : n < 128
    · rw [if_pos hlt] at hb
      exact ⟨n, acc, hlt, loopO_done hb, by unfold uvF; rw [if_pos hlt], by omega⟩
    · rw [if_neg hlt] at hb
      have ha : app acc [((n % 128 + 128 : Nat) : Int)] = some (acc ++ [((n % 128 + 128 : Nat) : Int)]) := by unfold app maxLen'; rw [if_pos (by simp; omega)]
      rw [ha, Option.bind_some] at hb
      have hf : 0 < f := by
        rcases Nat.eq_zero_or_pos f with rfl | h0
        · simp at hn; omega
        · exact h0
      obtain ⟨m, acc', h1, h2, h3, h4⟩ := ih (n / 128) (acc ++ [((n % 128 + 128 : Nat) : Int)]) (by rw [Nat.pow_succ] at hn; omega) (by omega) (by simp; omega) hf
      refine ⟨m, acc', h1, by rw [loopO_step hb]; exact h2, ?_, by simp at h4; omega⟩
      rw [h3]
      conv => rhs; unfold uvF
      rw [if_neg hlt]; simp
theorem app_eq {α : Type} {xs ys : List α} (h : xs.length + ys.length ≤ 2147483648) : app xs ys = some (xs ++ ys) := by unfold app maxLen'; rw [if_pos (by simpa using h)]
theorem sb_eq {s : ByteArray} (h : s.size ≤ 2147483648) : sb s = some (bytesOf s) := by unfold sb maxLen'; rw [if_pos h]
def Bytes (l : List Int) : Prop := ∀ x ∈ l, 0 ≤ x ∧ x < 256
theorem bytesOf_bytes (s : ByteArray) : Bytes (bytesOf s) := fun x hx => by
  unfold bytesOf at hx
  obtain ⟨b, _, rfl⟩ := List.mem_map.1 hx
  have := b.toNat_lt
  omega
theorem ofBytes_toList (l : List Int) : (ofBytes l).data.toList = l.map (fun n => UInt8.ofNat n.toNat) := by
  unfold ofBytes
  have key : ∀ (l : List Int) (r : ByteArray), (l.foldl (fun r n => r.push (UInt8.ofNat n.toNat)) r).data.toList = r.data.toList ++ l.map (fun n => UInt8.ofNat n.toNat) := by
    intro l
    induction l with
    | nil => intro r; simp
    | cons x l ih => intro r; rw [List.foldl_cons, ih]; simp [ByteArray.push]
  rw [key]; simp
theorem ofBytes_bytesOf (s : ByteArray) : ofBytes (bytesOf s) = s := by
  refine ba_eq ?_
  rw [ofBytes_toList]
  unfold bytesOf
  rw [List.map_map]
  conv => rhs; rw [← List.map_id s.data.toList]
  refine List.map_congr_left fun b _ => ?_
  show UInt8.ofNat ((b.toNat : Nat) : Int).toNat = b
  rw [Int.toNat_natCast, UInt8.ofNat_toNat]
theorem bytesOf_ofBytes {l : List Int} (h : Bytes l) : bytesOf (ofBytes l) = l := by
  unfold bytesOf
  rw [ofBytes_toList, List.map_map]
  conv => rhs; rw [← List.map_id l]
  refine List.map_congr_left fun x hx => ?_
  have := h x hx
  show (((UInt8.ofNat x.toNat).toNat : Nat) : Int) = x
  rw [UInt8.toNat_ofNat']
  omega
end Go.GB
/- Stable sorting: what is a stable sort of a list, and that there is one alone. -/
set_option linter.unusedVariables false
set_option linter.unusedSimpArgs false
namespace Go.GB
section
variable {α : Type}
structure Swo (lt : α → α → Bool) : Prop where
  asymm : ∀ a b, lt a b = true → lt b a = false
  trans : ∀ a b c, lt b a = false → lt c b = false → lt c a = false
variable {lt : α → α → Bool}
theorem Swo.irrefl (h : Swo lt) (a : α) : lt a a = false := by
  cases e : lt a a with
  | false => rfl
  | true => have := h.asymm a a e; rw [e] at this; exact this
def eqv (lt : α → α → Bool) (k x : α) : Bool := !lt k x && !lt x k
theorem eqv_iff {k x : α} : eqv lt k x = true ↔ lt k x = false ∧ lt x k = false := by simp [eqv]
theorem Swo.eqv_self (h : Swo lt) (a : α) : eqv lt a a = true := by simp [eqv, h.irrefl]
def Sorted (lt : α → α → Bool) (l : List α) : Prop := l.Pairwise fun a b => lt b a = false
def FE (lt : α → α → Bool) (l m : List α) : Prop := ∀ k, l.filter (eqv lt k) = m.filter (eqv lt k)
theorem FE.refl (l : List α) : FE lt l l := fun _ => rfl
theorem FE.symm {l m : List α} (h : FE lt l m) : FE lt m l := fun k => (h k).symm
theorem FE.trans {l m n : List α} (h : FE lt l m) (h' : FE lt m n) : FE lt l n := fun k => (h k).trans (h' k)
theorem FE.append {l m l' m' : List α} (h : FE lt l m) (h' : FE lt l' m') : FE lt (l ++ l') (m ++ m') := fun k => by rw [List.filter_append, List.filter_append, h k, h' k]
theorem FE.mem (hs : Swo lt) {l m : List α} (h : FE lt l m) {x : α} (hx : x ∈ l) : x ∈ m := by
  have : x ∈ l.filter (eqv lt x) := List.mem_filter.2 ⟨hx, hs.eqv_self x⟩
  rw [h x] at this
  exact (List.mem_filter.1 this).1
theorem FE.swap (hs : Swo lt) {X Y : List α} (h : ∀ x ∈ X, ∀ y ∈ Y, lt y x = true) : FE lt (X ++ Y) (Y ++ X) := fun k => by
  rw [List.filter_append, List.filter_append]
  by_cases hx : X.filter (eqv lt k) = []
  · rw [hx]; simp
  · have hy : Y.filter (eqv lt k) = [] := by
      rw [List.filter_eq_nil_iff]
      intro y hy hk
      obtain ⟨x, hx'⟩ := List.exists_mem_of_ne_nil _ hx
      obtain ⟨hxX, hxk⟩ := List.mem_filter.1 hx'
      have h1 := h x hxX y hy
      have h2 := hs.trans x k y (eqv_iff.1 hxk).1 (eqv_iff.1 hk).2
      rw [h1] at h2; cases h2
    rw [hy]; simp
theorem Sorted.uniq (hs : Swo lt) : ∀ {a b : List α}, Sorted lt a → Sorted lt b → FE lt a b → a = b
  | [], [], _, _, _ => rfl
  | [], y :: b, _, _, h => by have := h.symm.mem hs (x := y) (by simp); cases this
  | x :: a, [], _, _, h => by have := h.mem hs (x := x) (by simp); cases this
  | x :: a, y :: b, ha, hb, h => by
    have ha' := List.pairwise_cons.1 ha
    have hb' := List.pairwise_cons.1 hb
    have hxy : lt x y = false := by
      rcases List.mem_cons.1 (h.mem hs (x := x) (by simp)) with rfl | hx
      · exact hs.irrefl _
      · exact hb'.1 x hx
    have hyx : lt y x = false := by
      rcases List.mem_cons.1 (h.symm.mem hs (x := y) (by simp)) with rfl | hy
      · exact hs.irrefl _
      · exact ha'.1 y hy
    have e1 := h x
    rw [List.filter_cons_of_pos (hs.eqv_self x), List.filter_cons_of_pos (eqv_iff.2 ⟨hxy, hyx⟩)] at e1
    simp only [List.cons.injEq] at e1
    obtain ⟨rfl, _⟩ := e1
    congr 1
    refine Sorted.uniq hs ha'.2 hb'.2 fun k => ?_
    have e2 := h k
    by_cases hk : eqv lt k x = true
    · rw [List.filter_cons_of_pos hk, List.filter_cons_of_pos hk] at e2
      simpa using e2
    · rw [List.filter_cons_of_neg hk, List.filter_cons_of_neg hk] at e2
      exact e2
def StS (lt : α → α → Bool) (l m : List α) : Prop := FE lt m l ∧ Sorted lt m
theorem StS.uniq (hs : Swo lt) {l a b : List α} (ha : StS lt l a) (hb : StS lt l b) : a = b := Sorted.uniq hs ha.2 hb.2 (ha.1.trans hb.1.symm)
theorem FE.length (hs : Swo lt) : ∀ (n : Nat) {a b : List α}, a.length = n → FE lt a b → b.length = n
  | 0, a, b, hn, h => by
    cases b with
    | nil => rfl
    | cons y b => have := h.symm.mem hs (x := y) (by simp); rw [List.length_eq_zero_iff.1 hn] at this; cases this
  | n + 1, a, b, hn, h => by
    cases a with
    | nil => cases hn
    | cons x a =>
      have hx := h.mem hs (x := x) (by simp)
      have hne : b.filter (eqv lt x) ≠ [] := fun e => by
        have : x ∈ b.filter (eqv lt x) := List.mem_filter.2 ⟨hx, hs.eqv_self x⟩
        rw [e] at this; cases this
      -- the first of x's class in b is x
      have e1 := h x
      rw [List.filter_cons_of_pos (hs.eqv_self x)] at e1
      obtain ⟨b1, b2, hb, hb1⟩ : ∃ b1 b2, b = b1 ++ x :: b2 ∧ ∀ z ∈ b1, eqv lt x z = false := by
        clear hn h hx hne
        induction b with
        | nil => cases e1
        | cons z b ih =>
          by_cases hz : eqv lt x z = true
          · rw [List.filter_cons_of_pos hz] at e1
            simp only [List.cons.injEq] at e1
            obtain ⟨rfl, _⟩ := e1
            exact ⟨[], b, rfl, fun z hz => by cases hz⟩
          · rw [List.filter_cons_of_neg hz] at e1
            obtain ⟨b1, b2, rfl, h1⟩ := ih e1
            exact ⟨z :: b1, b2, rfl, fun w hw => by
              rcases List.mem_cons.1 hw with rfl | hw
              · simpa using hz
              · exact h1 w hw⟩
      have h2 : FE lt a (b1 ++ b2) := fun k => by
        have e2 := h k
        rw [hb, List.filter_append] at e2
        rw [List.filter_append]
        by_cases hk : eqv lt k x = true
        · rw [List.filter_cons_of_pos hk, List.filter_cons_of_pos hk] at e2
          have h0 : b1.filter (eqv lt k) = [] := by
            rw [List.filter_eq_nil_iff]
            intro z hz hkz
            have h1 := hb1 z hz
            have h3 := eqv_iff.1 hk
            have h4 := eqv_iff.1 hkz
            have : eqv lt x z = true := eqv_iff.2 ⟨hs.trans z k x h4.1 h3.2, hs.trans x k z h3.1 h4.2⟩
            rw [this] at h1; cases h1
          rw [h0] at e2 ⊢
          simpa using e2
        · rw [List.filter_cons_of_neg hk, List.filter_cons_of_neg hk] at e2
          exact e2
      have := FE.length hs n (by simpa using hn) h2
      rw [hb]; simp at this ⊢; omega
end
end Go.GB
/- Stable sorting: the library's swaps, rotations and binary searches. -/
set_option linter.unusedVariables false
set_option linter.unusedSimpArgs false
namespace Go.GB
section
variable {α : Type} {cf : α → α → Int}
end
end Go.GB
/- Stable sorting: the library's insertion sort and merge. -/
set_option linter.unusedVariables false
set_option linter.unusedSimpArgs false
namespace Go.GB
section
variable {α : Type} {lt : α → α → Bool}
theorem Sorted.last {A : List α} {z : α} (h : Sorted lt (A ++ [z])) : ∀ a ∈ A, lt z a = false := fun a ha => (List.pairwise_append.1 h).2.2 a ha z (by simp)
theorem Sorted.head {B : List α} {y : α} (h : Sorted lt (y :: B)) : ∀ b ∈ B, lt b y = false := (List.pairwise_cons.1 h).1
theorem Sorted.left {A B : List α} (h : Sorted lt (A ++ B)) : Sorted lt A := (List.pairwise_append.1 h).1
theorem Sorted.right {A B : List α} (h : Sorted lt (A ++ B)) : Sorted lt B := (List.pairwise_append.1 h).2.1
theorem Sorted.append {A B : List α} (h : Sorted lt A) (h' : Sorted lt B) (hc : ∀ a ∈ A, ∀ b ∈ B, lt b a = false) : Sorted lt (A ++ B) := List.pairwise_append.2 ⟨h, h', hc⟩
theorem StS.self {A : List α} (h : Sorted lt A) : StS lt A A := ⟨FE.refl A, h⟩
end
section
variable {α : Type} {cf : α → α → Int}
end
end Go.GB
/- Stable sorting: the library's merge in place. -/
set_option linter.unusedVariables false
set_option linter.unusedSimpArgs false
namespace Go.GB
section
variable {α : Type} {cf : α → α → Int}
end
end Go.GB
/- Stable sorting: the whole of it. -/
set_option linter.unusedVariables false
set_option linter.unusedSimpArgs false
namespace Go.GB
section
variable {α : Type}
inductive Full (lt : α → α → Bool) (k : Nat) : List α → Prop
  | nil : Full lt k []
  | snoc {D x : List α} : Full lt k D → x.length = k → Sorted lt x → Full lt k (D ++ x)
inductive Runs (lt : α → α → Bool) (k : Nat) : List α → Prop
  | last {x : List α} : x.length ≤ k → Sorted lt x → Runs lt k x
  | cons {x R : List α} : x.length = k → Sorted lt x → Runs lt k R → Runs lt k (x ++ R)
variable {lt : α → α → Bool} {k : Nat}
theorem Runs.sorted {R : List α} (h : Runs lt k R) (hk : R.length ≤ k) (hk0 : 0 < k) : Sorted lt R := by
  cases h with
  | last h1 h2 => exact h2
  | @cons x R h1 h2 h3 =>
    rw [List.length_append] at hk
    have : R = [] := List.length_eq_zero_iff.1 (by omega)
    rw [this, List.append_nil]; exact h2
theorem Runs.one {R : List α} (h : Runs lt k R) (h1 : k < R.length) (h2 : R.length < k + k) : ∃ x y, R = x ++ y ∧ x.length = k ∧ Sorted lt x ∧ Sorted lt y := by
  cases h with
  | last h3 h4 => omega
  | @cons x R h3 h4 h5 =>
    rw [List.length_append] at h1 h2
    exact ⟨x, R, rfl, h3, h4, h5.sorted (by omega) (by omega)⟩
end
section
variable {α : Type} {cf : α → α → Int}
end
end Go.GB
/- Plain laws of chapter 4: lists alike, lists that are gathered, label sets that are sorted. -/
set_option linter.unusedVariables false
set_option linter.unusedSimpArgs false
set_option maxRecDepth 100000
namespace Go.Proofs.YtkjkkimnjpodiaaGreatDoor
open Go.GB Go.Lib
abbrev LB := S76
theorem fold_up {α β ρ : Type} {body : β × Int → Option ((β × Int) ⊕ ρ)} (l : List α) (f : β → α → β) (g : β → ρ) (Inv : β → Nat → Prop)
    (h : ∀ (acc : β) (i : Nat) (hi : i < l.length), Inv acc i → body (acc, (i : Int)) = some (.inl (f acc l[i], ((i + 1 : Nat) : Int))) ∧ Inv (f acc l[i]) (i + 1))
    (he : ∀ acc, Inv acc l.length → body (acc, (l.length : Int)) = some (.inr (g acc))) :
    ∀ (d i : Nat) (acc : β), l.length - i = d → i ≤ l.length → Inv acc i → loopO body (acc, (i : Int)) = some (g ((l.drop i).foldl f acc)) := by
  intro d
  induction d with
  | zero =>
    intro i acc hd hi hI
    obtain rfl : i = l.length := by omega
    rw [List.drop_length]
    exact loopO_done (he acc hI)
  | succ d ih =>
    intro i acc hd hi hI
    have hlt : i < l.length := by omega
    obtain ⟨h1, h2⟩ := h acc i hlt hI
    rw [List.drop_eq_getElem_cons hlt, List.foldl_cons, loopO_step h1]
    exact ih (i + 1) _ (by omega) (by omega) h2
theorem fold_filter {α : Type} (p : α → Bool) : ∀ (l acc : List α), l.foldl (fun acc x => bif p x then acc ++ [x] else acc) acc = acc ++ l.filter p
  | [], acc => by simp
  | x :: l, acc => by
    rw [List.foldl_cons, fold_filter p l]
    cases h : p x <;> simp [h]
theorem filter_up {α ρ : Type} {body : List α × Int → Option ((List α × Int) ⊕ ρ)} (l : List α) (p : α → Bool) (g : List α → ρ) (hl : l.length ≤ 2147483648)
    (h : ∀ (acc : List α) (i : Nat) (hi : i < l.length), acc.length ≤ i → body (acc, (i : Int)) = some (.inl ((bif p l[i] then acc ++ [l[i]] else acc), ((i + 1 : Nat) : Int))))
    (he : ∀ acc, body (acc, (l.length : Int)) = some (.inr (g acc))) : loopO body ([], 0) = some (g (l.filter p)) := by
  have := fold_up (body := body) l (fun acc x => bif p x then acc ++ [x] else acc) g (fun acc i => acc.length ≤ i) (fun acc i hi hI => ⟨h acc i hi hI, by cases p l[i] <;> simp <;> omega⟩) (fun acc _ => he acc) l.length 0 [] (by omega) (by omega) (by simp)
  rw [List.drop_zero, fold_filter, List.nil_append] at this
  exact this
theorem up_any {ρ : Type} {body : Int → Option (Int ⊕ (Unit ⊕ ρ))} {n : Nat} (q : Nat → Bool) (v : ρ) (h : ∀ i : Nat, i < n → body i = some (bif q i then .inr (.inr v) else .inl ((i + 1 : Nat) : Int))) (he : body n = some (.inr (.inl ()))) :
    loopO body 0 = some (bif (List.range n).any q then .inr v else .inl ()) := by
  rw [up_find (fun i => if q i then some v else none) (fun i hi => by rw [h i hi]; cases q i <;> rfl) he]
  congr 1
  cases ha : (List.range n).any q with
  | true =>
    obtain ⟨i, hi, hq⟩ := List.any_eq_true.1 ha
    cases hf : (List.range n).findSome? (fun i => if q i then some v else none) with
    | none =>
      rw [List.findSome?_eq_none_iff] at hf
      have := hf i hi
      rw [if_pos hq] at this; cases this
    | some b =>
      obtain ⟨j, _, hj⟩ := List.exists_of_findSome?_eq_some hf
      split at hj
      · cases hj; rfl
      · cases hj
  | false =>
    rw [List.any_eq_false] at ha
    have : (List.range n).findSome? (fun i => if q i then some v else none) = none := by
      rw [List.findSome?_eq_none_iff]
      intro i hi
      rw [if_neg (ha i hi)]
    rw [this]; rfl
theorem any_range {α : Type} (l : List α) (f : α → Bool) : ((List.range l.length).any fun i => (l[i]?).any f) = l.any f := by
  rw [Bool.eq_iff_iff, List.any_eq_true, List.any_eq_true]
  constructor
  · rintro ⟨i, hi, h⟩
    have hi' := List.mem_range.1 hi
    rw [List.getElem?_eq_getElem hi', Option.any_some] at h
    exact ⟨l[i], List.getElem_mem hi', h⟩
  · rintro ⟨x, hx, h⟩
    obtain ⟨i, hi, rfl⟩ := List.getElem_of_mem hx
    exact ⟨i, List.mem_range.2 hi, by rw [List.getElem?_eq_getElem hi, Option.any_some]; exact h⟩
end Go.Proofs.YtkjkkimnjpodiaaGreatDoor
/- Plain laws: what a right label set is made of. -/
set_option linter.unusedVariables false
set_option linter.unusedSimpArgs false
set_option maxRecDepth 100000
namespace Go.Proofs.YtkjkkimnjpodiaaGreatDoor
open Go.GB Go.Lib
theorem faultAt_ne {l : List S76} {i : Nat} {v : Int × Int} (h : faultAt l i = some v) : v.1 ≠ 0 := by
  unfold faultAt at h
  split at h
  · cases h
  · rename_i x _
    by_cases h1 : oneE x ≠ 0
    · rw [if_pos h1] at h; cases h; exact h1
    · rw [if_neg h1] at h
      split at h
      · cases h
      · split at h
        · cases h
        · split at h
          · cases h
          · cases h; show (3 : Int) ≠ 0; decide
theorem right_none {l : List S76} (h : (rightE l).1 = 0) : l.length ≤ 16 ∧ ∀ i, i < l.length → faultAt l i = none := by
  unfold rightE at h
  split at h
  · cases h
  · refine ⟨by omega, fun i hi => ?_⟩
    cases hf : (List.range l.length).findSome? (faultAt l) with
    | some v =>
      rw [hf] at h
      obtain ⟨j, _, hj⟩ := List.exists_of_findSome?_eq_some hf
      exact absurd h (faultAt_ne hj)
    | none => rw [List.findSome?_eq_none_iff] at hf; exact hf i (List.mem_range.2 hi)
theorem one_parts {x : S76} (h : oneE x = 0) : namedB x.f0 64 false = true ∧ x.f1.size ≠ 0 ∧ x.f1.size ≤ 256 ∧ validD x.f1.data.toList = true := by
  unfold oneE at h
  cases hn : namedB x.f0 64 false with
  | false => rw [hn] at h; cases h
  | true =>
    rw [hn] at h
    simp only [if_true] at h
    unfold valueE at h
    by_cases h0 : x.f1.size = 0
    · rw [if_pos h0] at h; cases h
    · rw [if_neg h0] at h
      by_cases h1 : x.f1.size > 256
      · rw [if_pos h1] at h; cases h
      · rw [if_neg h1] at h
        cases hv : validD x.f1.data.toList with
        | false => rw [hv] at h; cases h
        | true => exact ⟨rfl, h0, by omega, rfl⟩
theorem named_valid {s : ByteArray} {most : Nat} {c : Bool} (h : namedB s most c = true) : s.size ≤ most ∧ s.size ≠ 0 ∧ validD s.data.toList = true := by
  unfold namedB at h
  simp only [Bool.and_eq_true, decide_eq_true_eq, List.all_eq_true, Bool.not_eq_true'] at h
  obtain ⟨h0, h1, _, h2⟩ := h
  refine ⟨h1, h0, ?_⟩
  have := validD_ascii s.data.toList.length s.data.toList (fun b hb => by
    rw [List.take_length] at hb
    obtain ⟨i, hi, rfl⟩ := List.getElem_of_mem hb
    have h3 := h2 i (List.mem_range.2 (by rw [← size_list]; exact hi))
    have e : bat s i = (s.data.toList[i]).toNat := by
      unfold bat
      rw [List.getD_eq_getElem?_getD, List.getElem?_eq_getElem hi]; rfl
    rw [e] at h3
    unfold labels_letter labels_digit at h3
    simp only [Bool.or_eq_true, Bool.and_eq_true, decide_eq_true_eq, beq_iff_eq] at h3
    omega)
  rw [this, List.drop_length]
  rfl
theorem right_parts {l : List S76} (h : (rightE l).1 = 0) : l.length ≤ 16 ∧ ∀ x ∈ l, oneE x = 0 := by
  obtain ⟨h1, h2⟩ := right_none h
  refine ⟨h1, fun x hx => ?_⟩
  obtain ⟨i, hi, rfl⟩ := List.getElem_of_mem hx
  have := h2 i hi
  unfold faultAt at this
  rw [List.getElem?_eq_getElem hi] at this
  simp only at this
  by_cases h0 : oneE l[i] ≠ 0
  · rw [if_pos h0] at this; cases this
  · simpa using h0
end Go.Proofs.YtkjkkimnjpodiaaGreatDoor
/- Plain laws: labels whose names are among some: Keep, Without, Pick. -/
set_option linter.unusedVariables false
set_option linter.unusedSimpArgs false
set_option maxRecDepth 100000
namespace Go.Proofs.YtkjkkimnjpodiaaGreatDoor
open Go.GB Go.Lib
theorem right_eq (l : List LB) : labels_right l = some (rightE l).1 := by unfold labels_right; rw [Right_eq]; rfl
def hasB (names : List ByteArray) (s : ByteArray) : Bool := names.any fun x => (x.toList == s.toList)
theorem has_eq (names : List ByteArray) (s : ByteArray) (hn : names.length < 2147483648) : tocsinref04_has names s = some (hasB names s) := by
  unfold tocsinref04_has hasB
  rw [up_any (n := names.length) (fun j => (names[j]?).any fun y => (y.toList == s.toList)) true (fun j hj => ?_) ?_, any_range]
  · simp only [Option.bind_some]
    cases names.any fun x => (x.toList == s.toList) <;> rfl
  · unfold tocsinref04_has_l17
    rw [show decide ((names.length : Int) < (names.length : Int)) = false from decide_eq_false (by omega)]; rfl
  · unfold tocsinref04_has_l17
    rw [show decide ((j : Int) < (names.length : Int)) = true from decide_eq_true (by omega)]
    simp only [cond_true, ix_nat, List.getElem?_eq_getElem hj, Option.bind_some, wrap_up (show j < 4294967296 by omega), Option.any_some]
    cases (names[j].toList == s.toList) <;> rfl
theorem Contains_eq (names : List ByteArray) (s : ByteArray) (hn : names.length < 2147483648) : slices_Contains names s = some (hasB names s) := by
  unfold slices_Contains slices_Index hasB
  rw [up_find (n := names.length) (fun j => match names[j]? with | some y => if (s.toList == y.toList) = true then some (j : Int) else none | none => none) (fun j hj => ?_) ?_]
  · simp only [Option.bind_some]
    cases hf : (List.range names.length).findSome? (fun j => match names[j]? with | some y => if (s.toList == y.toList) = true then some (j : Int) else none | none => none) with
    | none =>
      rw [List.findSome?_eq_none_iff] at hf
      rw [show (names.any fun x => (x.toList == s.toList)) = false from by
        rw [List.any_eq_false]
        intro x hx
        obtain ⟨j, hj, rfl⟩ := List.getElem_of_mem hx
        have := hf j (List.mem_range.2 hj)
        rw [List.getElem?_eq_getElem hj] at this
        simp only at this
        split at this
        · cases this
        · rename_i h; intro e; exact h (toList_inj.2 (toList_inj.1 e).symm)]
      rfl
    | some b =>
      obtain ⟨j, hj, hjb⟩ := List.exists_of_findSome?_eq_some hf
      have hj' := List.mem_range.1 hj
      rw [List.getElem?_eq_getElem hj'] at hjb
      simp only at hjb
      split at hjb <;> try (cases hjb; done)
      rename_i h
      simp only [Option.some.injEq] at hjb
      subst hjb
      rw [show (names.any fun x => (x.toList == s.toList)) = true from List.any_eq_true.2 ⟨names[j], List.getElem_mem hj', toList_inj.2 (toList_inj.1 h).symm⟩]
      simp
  · unfold slices_Index_l17
    rw [show decide ((names.length : Int) < (names.length : Int)) = false from decide_eq_false (by omega)]; rfl
  · unfold slices_Index_l17
    rw [show decide ((j : Int) < (names.length : Int)) = true from decide_eq_true (by omega)]
    simp only [cond_true, ix_nat, List.getElem?_eq_getElem hj, Option.bind_some, wrap_up (show j < 4294967296 by omega)]
    cases (s.toList == names[j].toList) <;> rfl
theorem pick_eq (l : List LB) (b : Bool) (names : List ByteArray) (hl : l.length < 2147483648) (hn : names.length < 2147483648) : labels_pick l b names = some (l.filter fun x => (hasB names x.f0 == b)) := by
  unfold labels_pick
  rw [filter_up l (fun x => (hasB names x.f0 == b)) id (by omega) (fun acc i hi ha => ?_) (fun acc => ?_)]
  · rfl
  · unfold labels_pick_l28
    rw [show decide ((i : Int) < (l.length : Int)) = true from decide_eq_true (by omega)]
    simp only [cond_true, ix_nat, List.getElem?_eq_getElem hi, Option.bind_some, wrap_up (show i < 4294967296 by omega), Contains_eq names _ hn]
    rw [app_eq (by simp; omega)]
    cases (hasB names l[i].f0 == b) <;> rfl
  · unfold labels_pick_l28
    rw [show decide ((l.length : Int) < (l.length : Int)) = false from decide_eq_false (by omega)]; rfl
theorem refPick_eq (l : List LB) (b : Bool) (names : List ByteArray) (hl : l.length < 2147483648) (hn : names.length < 2147483648) : tocsinref04_Pick l names b = some (l.filter fun x => (hasB names x.f0 == b)) := by
  unfold tocsinref04_Pick
  rw [filter_up l (fun x => (hasB names x.f0 == b)) id (by omega) (fun acc i hi ha => ?_) (fun acc => ?_)]
  · rfl
  · unfold tocsinref04_Pick_l28
    rw [show decide ((i : Int) < (l.length : Int)) = true from decide_eq_true (by omega)]
    simp only [cond_true, ix_nat, List.getElem?_eq_getElem hi, Option.bind_some, wrap_up (show i < 4294967296 by omega), has_eq names _ hn]
    rw [app_eq (by simp; omega)]
    cases (hasB names l[i].f0 == b) <;> rfl
  · unfold tocsinref04_Pick_l28
    rw [show decide ((l.length : Int) < (l.length : Int)) = false from decide_eq_false (by omega)]; rfl
noncomputable def keepE (l : List LB) (names : List ByteArray) (b : Bool) : List LB × Int := bif (rightE l).1 != 0 then ([], (rightE l).1) else (l.filter fun x => (hasB names x.f0 == b), 0)
theorem Without_eq (l : List LB) (names : List ByteArray) (hl : l.length < 2147483640) (hn : names.length < 2147483640) : labels_Without l names = some (keepE l names false) := by
  unfold labels_Without keepE
  simp only [right_eq, Option.bind_some, pick_eq l false names (by omega) (by omega)]
  cases (rightE l).1 != 0 <;> rfl
theorem Keep_eq (l : List LB) (names : List ByteArray) (hl : l.length < 2147483640) (hn : names.length < 2147483640) : labels_Keep l names = some (keepE l names true) := by
  unfold labels_Keep keepE
  simp only [right_eq, Option.bind_some, pick_eq l true names (by omega) (by omega)]
  cases (rightE l).1 != 0 <;> rfl
theorem keepE_right {l : List LB} (h : (rightE l).1 = 0) (names : List ByteArray) (b : Bool) : keepE l names b = (l.filter fun x => (hasB names x.f0 == b), 0) := by
  unfold keepE
  rw [h]; rfl
end Go.Proofs.YtkjkkimnjpodiaaGreatDoor
set_option linter.unusedVariables false
set_option linter.unusedSimpArgs false
set_option maxRecDepth 100000
namespace Go.Proofs.YtkjkkimnjpodiaaGreatDoor
open Go.GB Go.Lib
def cmpX (x y : S76) : Int := if cmpS x.f0 y.f0 ≠ 0 then cmpS x.f0 y.f0 else cmpS x.f1 y.f1
def cmpL : List S76 → List S76 → Int
  | [], [] => 0
  | [], _ :: _ => -1
  | _ :: _, [] => 1
  | x :: xs, y :: ys => if cmpX x y ≠ 0 then cmpX x y else cmpL xs ys
theorem strCmp_eq (a b : ByteArray) : strings_Compare a b = cmpS a b := rfl
theorem side_eq (a b : ByteArray) : tocsinref04_side a b = cmpS a b := by
  unfold tocsinref04_side
  rw [less_eq, beq_eq]
  rcases cmpS_range a b with h | h | h <;> rw [h] <;> rfl
theorem cmp1_eq (x y : S76) : labels_Compare_1 x y = cmpX x y := by
  unfold labels_Compare_1 cmpX
  rw [strCmp_eq, strCmp_eq]
  by_cases h : cmpS x.f0 y.f0 = 0
  · rw [if_neg (by simpa using h), show (cmpS x.f0 y.f0 != 0) = false by simp [h]]; rfl
  · rw [if_pos h, show (cmpS x.f0 y.f0 != 0) = true by simpa using h]; rfl
theorem cmpX_range (x y : S76) : cmpX x y = -1 ∨ cmpX x y = 0 ∨ cmpX x y = 1 := by unfold cmpX; split <;> exact cmpS_range _ _
theorem cmpX_self (x : S76) : cmpX x x = 0 := by unfold cmpX; rw [cmpS_self, cmpS_self]; rfl
theorem cmpX_swap (x y : S76) : cmpX y x = - cmpX x y := by
  unfold cmpX
  rw [cmpS_swap x.f0 y.f0, cmpS_swap x.f1 y.f1]
  by_cases h : cmpS x.f0 y.f0 = 0
  · rw [if_neg (by simp [h]), if_neg (by simp [h])]
  · rw [if_pos (by simp [h]), if_pos h]
theorem cmpX_zero {x y : S76} (h : cmpX x y = 0) : x = y := by
  unfold cmpX at h
  obtain ⟨x0, x1⟩ := x
  obtain ⟨y0, y1⟩ := y
  by_cases h1 : cmpS x0 y0 = 0
  · rw [if_neg (by simpa using h1)] at h
    have e1 : x0 = y0 := cmpS_zero h1
    have e2 : x1 = y1 := cmpS_zero h
    rw [e1, e2]
  · rw [if_pos h1] at h; exact absurd h h1
theorem cmpX_trans {x y z : S76} (h : cmpX x y = -1) (k : cmpX y z = -1) : cmpX x z = -1 := by
  unfold cmpX at h k ⊢
  by_cases h1 : cmpS x.f0 y.f0 = 0
  · rw [if_neg (by simpa using h1)] at h
    have e := cmpS_zero h1
    rw [e]
    by_cases h2 : cmpS y.f0 z.f0 = 0
    · rw [if_neg (by simpa using h2)] at k ⊢
      exact cmpS_trans h k
    · rw [if_pos h2] at k ⊢; exact k
  · rw [if_pos h1] at h
    by_cases h2 : cmpS y.f0 z.f0 = 0
    · have e := cmpS_zero h2
      rw [← e, if_pos h1]; exact h
    · rw [if_pos h2] at k
      have := cmpS_trans h k
      rw [if_pos (by omega)]; exact this
theorem cmpL_range : ∀ a b : List S76, cmpL a b = -1 ∨ cmpL a b = 0 ∨ cmpL a b = 1
  | [], [] => by simp [cmpL]
  | [], _ :: _ => by simp [cmpL]
  | _ :: _, [] => by simp [cmpL]
  | x :: xs, y :: ys => by
    unfold cmpL
    split
    · exact cmpX_range _ _
    · exact cmpL_range xs ys
theorem cmpL_self : ∀ a : List S76, cmpL a a = 0
  | [] => rfl
  | x :: xs => by unfold cmpL; rw [if_neg (by simp [cmpX_self])]; exact cmpL_self xs
theorem cmpL_swap : ∀ a b : List S76, cmpL b a = - cmpL a b
  | [], [] => rfl
  | [], _ :: _ => rfl
  | _ :: _, [] => rfl
  | x :: xs, y :: ys => by
    unfold cmpL
    rw [cmpX_swap x y]
    by_cases h : cmpX x y = 0
    · rw [if_neg (by simp [h]), if_neg (by simp [h])]; exact cmpL_swap xs ys
    · rw [if_pos (by simp [h]), if_pos h]
theorem cmpL_zero : ∀ {a b : List S76}, cmpL a b = 0 → a = b
  | [], [], _ => rfl
  | [], _ :: _, h => by simp [cmpL] at h
  | _ :: _, [], h => by simp [cmpL] at h
  | x :: xs, y :: ys, h => by
    unfold cmpL at h
    by_cases h1 : cmpX x y = 0
    · rw [if_neg (by simpa using h1)] at h
      rw [cmpX_zero h1, cmpL_zero h]
    · rw [if_pos h1] at h; exact absurd h h1
theorem cmpL_trans : ∀ {a b c : List S76}, cmpL a b = -1 → cmpL b c = -1 → cmpL a c = -1
  | [], [], _, h, _ => by simp [cmpL] at h
  | [], _ :: _, [], _, h => by simp [cmpL] at h
  | [], _ :: _, _ :: _, _, _ => rfl
  | _ :: _, [], _, h, _ => by simp [cmpL] at h
  | _ :: _, _ :: _, [], _, h => by simp [cmpL] at h
  | x :: xs, y :: ys, z :: zs, h, k => by
    unfold cmpL at h k ⊢
    by_cases h1 : cmpX x y = 0
    · have e := cmpX_zero h1
      rw [if_neg (by simpa using h1)] at h
      rw [e]
      by_cases h2 : cmpX y z = 0
      · rw [if_neg (by simpa using h2)] at k ⊢
        exact cmpL_trans h k
      · rw [if_pos h2] at k ⊢; exact k
    · rw [if_pos h1] at h
      by_cases h2 : cmpX y z = 0
      · rw [← cmpX_zero h2, if_pos h1]; exact h
      · rw [if_pos h2] at k
        have := cmpX_trans h k
        rw [if_pos (by omega)]; exact this
theorem compare_eq (a b : List S76) (ha : a.length ≤ 2147483648) : labels_Compare a b = some (cmpL a b) := by
  unfold labels_Compare slices_CompareFunc
  have key : ∀ d i : Nat, a.length - i = d → i ≤ a.length → i ≤ b.length →
      (Option.bind (loopO (slices_CompareFunc_l17 a b (fun x0 x1 => some (labels_Compare_1 x0 x1))) (i : Int)) fun (r5 : (Unit) ⊕ (Int)) =>
        match r5 with
        | Sum.inl r13 => bif (decide ((a.length : Int) < (b.length : Int))) then (some (-1)) else (some 0)
        | Sum.inr v43 => some v43) = some (cmpL (a.drop i) (b.drop i)) := by
    intro d
    induction d with
    | zero =>
      intro i hd hia hib
      have hi : i = a.length := by omega
      subst hi
      rw [loopO_done (r := .inl ()) (by
        unfold slices_CompareFunc_l17
        rw [show decide ((a.length : Int) < (a.length : Int)) = false from decide_eq_false (by omega)]; rfl)]
      rw [List.drop_length]
      by_cases hlt : a.length < b.length
      · rw [List.drop_eq_getElem_cons hlt]
        simp [hlt, cmpL]
      · rw [List.drop_eq_nil_of_le (by omega)]
        simp [hlt, cmpL]
    | succ d ih =>
      intro i hd hia hib
      have hlt : i < a.length := by omega
      have hx : ix a (i : Int) = some a[i] := by rw [ix_nat, List.getElem?_eq_getElem hlt]
      rw [List.drop_eq_getElem_cons hlt]
      by_cases hb : i < b.length
      · have hy : ix b (i : Int) = some b[i] := by rw [ix_nat, List.getElem?_eq_getElem hb]
        rw [List.drop_eq_getElem_cons hb]
        unfold cmpL
        have hbody : slices_CompareFunc_l17 a b (fun x0 x1 => some (labels_Compare_1 x0 x1)) (i : Int) = some (if cmpX a[i] b[i] ≠ 0 then .inr (.inr (cmpX a[i] b[i])) else .inl ((i + 1 : Nat) : Int)) := by
          unfold slices_CompareFunc_l17
          rw [show decide ((i : Int) < (a.length : Int)) = true from decide_eq_true (by omega), show decide ((i : Int) ≥ (b.length : Int)) = false from decide_eq_false (by omega)]
          simp only [cond_true, hx, hy, Option.bind_some, cond_false, cmp1_eq, wrap_up (show i < 4294967296 by omega)]
          by_cases h : cmpX a[i] b[i] = 0
          · simp [h]
          · rw [if_pos h, show (cmpX a[i] b[i] != 0) = true by simpa using h]; rfl
        by_cases h : cmpX a[i] b[i] = 0
        · rw [if_neg (by simpa using h)] at hbody ⊢
          rw [loopO_step hbody]
          exact ih (i + 1) (by omega) (by omega) (by omega)
        · rw [if_pos h] at hbody ⊢
          rw [loopO_done hbody]; rfl
      · rw [List.drop_eq_nil_of_le (show b.length ≤ i by omega)]
        have hbody : slices_CompareFunc_l17 a b (fun x0 x1 => some (labels_Compare_1 x0 x1)) (i : Int) = some (.inr (.inr 1)) := by
          unfold slices_CompareFunc_l17
          rw [show decide ((i : Int) < (a.length : Int)) = true from decide_eq_true (by omega), show decide ((i : Int) ≥ (b.length : Int)) = true from decide_eq_true (by omega)]
          simp only [cond_true, hx, Option.bind_some]
        rw [loopO_done hbody]; rfl
  have := key a.length 0 (by omega) (by omega) (by omega)
  rw [show ((0 : Nat) : Int) = 0 from rfl] at this
  exact (congrArg (fun X => Option.bind X (fun (y1 : Int) => some y1)) this).trans rfl
theorem refCompare_eq (a b : List S76) (ha : a.length ≤ 2147483648) : tocsinref04_Compare a b = some (cmpL a b) := by
  unfold tocsinref04_Compare
  have key : ∀ d i : Nat, a.length - i = d → i ≤ a.length → i ≤ b.length →
      (Option.bind (loopO (tocsinref04_Compare_l17 a b) (i : Int)) fun (r5 : (Unit) ⊕ (Int)) =>
        match r5 with
        | Sum.inl r13 => bif (decide ((a.length : Int) < (b.length : Int))) then (some (-1)) else (bif (decide ((a.length : Int) > (b.length : Int))) then (some 1) else (some 0))
        | Sum.inr v62 => some v62) = some (cmpL (a.drop i) (b.drop i)) := by
    intro d
    induction d with
    | zero =>
      intro i hd hia hib
      have hi : i = a.length := by omega
      subst hi
      rw [loopO_done (r := .inl ()) (by
        unfold tocsinref04_Compare_l17
        rw [show decide ((a.length : Int) < (a.length : Int)) = false from decide_eq_false (by omega)]; rfl)]
      rw [List.drop_length]
      by_cases hlt : a.length < b.length
      · rw [List.drop_eq_getElem_cons hlt]
        simp [hlt, cmpL]
      · rw [List.drop_eq_nil_of_le (by omega)]
        have h2 : ¬ b.length < a.length := by omega
        simp [hlt, h2, cmpL]
    | succ d ih =>
      intro i hd hia hib
      have hlt : i < a.length := by omega
      have hx : ix a (i : Int) = some a[i] := by rw [ix_nat, List.getElem?_eq_getElem hlt]
      rw [List.drop_eq_getElem_cons hlt]
      by_cases hb : i < b.length
      · have hy : ix b (i : Int) = some b[i] := by rw [ix_nat, List.getElem?_eq_getElem hb]
        rw [List.drop_eq_getElem_cons hb]
        unfold cmpL
        have hbody : tocsinref04_Compare_l17 a b (i : Int) = some (if cmpX a[i] b[i] ≠ 0 then .inr (.inr (cmpX a[i] b[i])) else .inl ((i + 1 : Nat) : Int)) := by
          unfold tocsinref04_Compare_l17
          rw [show decide ((i : Int) < (a.length : Int)) = true from decide_eq_true (by omega), show decide ((i : Int) < (b.length : Int)) = true from decide_eq_true (by omega)]
          simp only [Bool.and_self, cond_true, hx, hy, Option.bind_some, side_eq, wrap_up (show i < 4294967296 by omega)]
          unfold cmpX
          by_cases h : cmpS a[i].f0 b[i].f0 = 0
          · have h' : ¬ (cmpS a[i].f0 b[i].f0 ≠ 0) := by simpa using h
            simp only [if_neg h', show (cmpS a[i].f0 b[i].f0 != 0) = false by simp [h], cond_false]
            by_cases h2 : cmpS a[i].f1 b[i].f1 = 0
            · simp [h2]
            · rw [if_pos h2, show (cmpS a[i].f1 b[i].f1 != 0) = true by simpa using h2]; rfl
          · have h' : cmpS a[i].f0 b[i].f0 ≠ 0 := h
            simp only [if_pos h', show (cmpS a[i].f0 b[i].f0 != 0) = true by simpa using h, cond_true]
        by_cases h : cmpX a[i] b[i] = 0
        · rw [if_neg (by simpa using h)] at hbody ⊢
          rw [loopO_step hbody]
          exact ih (i + 1) (by omega) (by omega) (by omega)
        · rw [if_pos h] at hbody ⊢
          rw [loopO_done hbody]; rfl
      · rw [List.drop_eq_nil_of_le (show b.length ≤ i by omega)]
        have hbody : tocsinref04_Compare_l17 a b (i : Int) = some (.inr (.inl ())) := by
          unfold tocsinref04_Compare_l17
          rw [show decide ((i : Int) < (a.length : Int)) = true from decide_eq_true (by omega), show decide ((i : Int) < (b.length : Int)) = false from decide_eq_false (by omega)]
          rfl
        rw [loopO_done hbody]
        have h1 : ¬ a.length < b.length := by omega
        have h2 : b.length < a.length := by omega
        simp [h1, h2, cmpL]
  have := key a.length 0 (by omega) (by omega) (by omega)
  rw [show ((0 : Nat) : Int) = 0 from rfl] at this
  exact this
theorem refSame_eq (a b : List S76) (ha : a.length ≤ 2147483648) : tocsinref04_Same a b = some (decide (cmpL a b = 0)) := by
  unfold tocsinref04_Same
  rw [refCompare_eq a b ha]
  rfl
end Go.Proofs.YtkjkkimnjpodiaaGreatDoor
