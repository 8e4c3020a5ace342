/- Parts: Q1c. -/
import Derived.Test.YtnlkfajnaelnnaaGreatDoorQ1bk
set_option linter.unusedVariables false
set_option linter.unusedSimpArgs false
set_option maxRecDepth 100000
namespace Go.Proofs.YtnlkfajnaelnnaaGreatDoor
open Go.GB
/-! 144 slices_insertionSortCmpFunc ('inp', 'imm', 'imm', ('cfn', 116)) -/
noncomputable def slices_insertionSortCmpFunc_l52 (a1 : Int) : ((List S49) × Int) → Option (((List S49) × Int) ⊕ ((List S49))) := fun s37 =>
 Option.bind (bif (decide (s37.2 > a1)) then
  (Option.bind (ix s37.1 s37.2) fun (x60 : S49) =>
   Option.bind (ix s37.1 (IntKind.wrap .i64 (s37.2 - 1))) fun (x69 : S49) =>
   some (decide ((labels_sorted_1 x60 x69) < 0)))
  else
  (some false)) fun (j54 : Bool) =>
 bif j54 then
 (Option.bind (ix s37.1 (IntKind.wrap .i64 (s37.2 - 1))) fun (x79 : S49) =>
  Option.bind (ix s37.1 s37.2) fun (x88 : S49) =>
  Option.bind (ix s37.1 s37.2) fun (x97 : S49) =>
  Option.bind (ix (lset s37.1 s37.2 x79) (IntKind.wrap .i64 (s37.2 - 1))) fun (x109 : S49) =>
  some (Sum.inl ((lset (lset s37.1 s37.2 x79) (IntKind.wrap .i64 (s37.2 - 1)) x88), (IntKind.wrap .i64 (s37.2 - 1)))))
 else
 (some (Sum.inr s37.1))
noncomputable def slices_insertionSortCmpFunc_l25 (a1 : Int) (a2 : Int) : ((List S49) × Int) → Option (((List S49) × Int) ⊕ ((List S49))) := fun s10 =>
 bif (decide (s10.2 < a2)) then
 (Option.bind (loopO (slices_insertionSortCmpFunc_l52 a1) (s10.1, s10.2)) fun (r35 : (List S49)) =>
  some (Sum.inl (r35, (IntKind.wrap .i64 (s10.2 + 1)))))
 else
 (some (Sum.inr s10.1))
noncomputable def slices_insertionSortCmpFunc (a0 : List S49) (a1 : Int) (a2 : Int) : Option (List S49) :=
 Option.bind (loopO (slices_insertionSortCmpFunc_l25 a1 a2) (a0, (IntKind.wrap .i64 (a1 + 1)))) fun (r8 : (List S49)) =>
 some r8
theorem slices_insertionSortCmpFunc_walk {a0 : List S49} {A0 : Option Addr} {c0 : Nat} {C0 : Own} {a1 : Int} {a2 : Int} {I : Imm} {r : (List S49)} (hO0 : OwnS kS49 50 I A0 c0 a0 C0) (hr : slices_insertionSortCmpFunc a0 a1 a2 = some r) (L : Own) :
  CallsTo Tryz.prog 144 #[.slice A0 a0.length c0, .int .i64 a1, .int .i64 a2, .func (.func 116) #[] #[]] I (C0 ++ L) (fun v I' L' => ∃ C0, OwnS kS49 50 I' A0 c0 r C0 ∧ r.length = a0.length ∧ v = .tuple #[] ∧ C0 ++ L = L') := by
 unfold slices_insertionSortCmpFunc at hr
 refine callsTo_body (N := 53) Tryz.func144 (by kernel_rfl) (by kernel_rfl) (by kernel_rfl) ?_
 refine qq [0, 1, 2, 3] [(0, .slice A0 a0.length c0), (1, .int .i64 a1), (2, .int .i64 a2), (3, .func (.func 116) #[] #[])] (qk (qR (qp 3 [0, 1, 2, 3, 8] [(0, .slice A0 a0.length c0), (1, .int .i64 a1), (2, .int .i64 a2), (3, .func (.func 116) #[] #[]), (8, .int .i64 (IntKind.wrap .i64 (a1 + 1)))] (qE (qs ?_)))))
 obtain ⟨r8, hl9, hr⟩ := bind_some hr
 refine gk_join (fun t I' L' => ∃ C20, OwnS kS49 50 I' A0 c0 r8 C20 ∧ (r8.length = a0.length) ∧ I ≤ I' ∧ C20 ++ L = L' ∧ Knows 53 [(0, .slice A0 r8.length c0)] t) ?_ ?_
 ·refine qb (qq [0, 1, 2, 3, 8] [(0, .slice A0 a0.length c0), (1, .int .i64 a1), (2, .int .i64 a2), (3, .func (.func 116) #[] #[]), (8, .int .i64 (IntKind.wrap .i64 (a1 + 1)))] ?_)
  intro t hK
  refine gc_loop (slices_insertionSortCmpFunc_l25 a1 a2) (fun s10 t I' L' => ∃ C14, OwnS kS49 50 I' A0 c0 s10.1 C14 ∧ (s10.1.length = a0.length) ∧ I ≤ I' ∧ C14 ++ L = L' ∧ Knows 53 [(0, .slice A0 s10.1.length c0), (1, .int .i64 a1), (2, .int .i64 a2), (3, .func (.func 116) #[] #[]), (8, .int .i64 s10.2)] t) (by kernel_rfl) ?_ hl9 ⟨C0, hO0, rfl, (Imm.refl _), rfl, hK⟩
  rintro s10 o11 t I18 L' hb12 ⟨C14, hO15, hL16, hI13, rfl, hK17⟩
  unfold slices_insertionSortCmpFunc_l25 at hb12
  refine gk_at hK17 ?_
  refine qk (qk (qR (qp 3 [0, 1, 2, 3, 8, 14] [(0, .slice A0 s10.1.length c0), (1, .int .i64 a1), (2, .int .i64 a2), (3, .func (.func 116) #[] #[]), (8, .int .i64 s10.2), (14, .bool (decide (s10.2 < a2)))] (qE (qs ?_)))))
  refine gk_cond (b := (decide (s10.2 < a2))) (by kernel_rfl) (by kernel_rfl) (fun hc27 => ?_) (fun hc27 => ?_)
  ·have hb12 := cond_t hc27 hb12
   refine qx (qs (qk (qb (qk (qR (qp 2 [0, 1, 2, 3, 8, 9] [(0, .slice A0 s10.1.length c0), (1, .int .i64 a1), (2, .int .i64 a2), (3, .func (.func 116) #[] #[]), (8, .int .i64 s10.2), (9, .int .i64 s10.2)] (qE (qs ?_))))))))
   obtain ⟨r35, hl36, hb12⟩ := bind_some hb12
   refine gk_join (fun t I' L' => ∃ C47, OwnS kS49 50 I' A0 c0 r35 C47 ∧ (r35.length = a0.length) ∧ I18 ≤ I' ∧ C47 ++ L = L' ∧ Knows 53 [(0, .slice A0 r35.length c0), (1, .int .i64 a1), (2, .int .i64 a2), (3, .func (.func 116) #[] #[]), (8, .int .i64 s10.2)] t) ?_ ?_
   ·refine qb (qq [0, 1, 2, 3, 8, 9] [(0, .slice A0 s10.1.length c0), (1, .int .i64 a1), (2, .int .i64 a2), (3, .func (.func 116) #[] #[]), (8, .int .i64 s10.2), (9, .int .i64 s10.2)] ?_)
    intro t hK
    refine gc_loop (slices_insertionSortCmpFunc_l52 a1) (fun s37 t I' L' => ∃ C41, OwnS kS49 50 I' A0 c0 s37.1 C41 ∧ (s37.1.length = a0.length) ∧ I18 ≤ I' ∧ C41 ++ L = L' ∧ Knows 53 [(0, .slice A0 s37.1.length c0), (1, .int .i64 a1), (2, .int .i64 a2), (3, .func (.func 116) #[] #[]), (8, .int .i64 s10.2), (9, .int .i64 s37.2)] t) (by kernel_rfl) ?_ hl36 ⟨C14, hO15, hL16, (Imm.refl _), rfl, hK⟩
    rintro s37 o38 t I45 L' hb39 ⟨C41, hO42, hL43, hI40, rfl, hK44⟩
    unfold slices_insertionSortCmpFunc_l52 at hb39
    refine gk_at hK44 ?_
    refine qk (qk ?_)
    obtain ⟨j54, hj55, hb39⟩ := bind_some hb39
    refine gk_join (fun t I' L' => I45 ≤ I' ∧ C41 ++ L = L' ∧ Knows 53 [(0, .slice A0 s37.1.length c0), (1, .int .i64 a1), (2, .int .i64 a2), (3, .func (.func 116) #[] #[]), (8, .int .i64 s10.2), (9, .int .i64 s37.2), (34, .bool j54)] t) ?_ ?_
    ·refine gk_draw 14 (rng 0 14) (C41 ++ []) (fma ⟨fun q hq => (mal hq), nim⟩) (by kernel_rfl) (by kernel_rfl) (by kernel_rfl) ?_ (by kernel_rfl)
     refine dp 4 [0, 1, 2, 3, 8, 9, 21] [(0, .slice A0 s37.1.length c0), (1, .int .i64 a1), (2, .int .i64 a2), (3, .func (.func 116) #[] #[]), (8, .int .i64 s10.2), (9, .int .i64 s37.2), (21, .bool (decide (s37.2 > a1)))] (rng 4 10) (CC.refl (fma ⟨fun q hq => (mal hq), nim⟩)) ?_
     refine gd_case 21 (b := (decide (s37.2 > a1))) (by kernel_rfl) (fun hc59 => ?_) (fun hc59 => ?_)
     ·have hj55 := cond_t hc59 hj55
      refine dp 3 [0, 1, 2, 3, 8, 9, 21, 22, 23, 24] [(0, .slice A0 s37.1.length c0), (1, .int .i64 a1), (2, .int .i64 a2), (3, .func (.func 116) #[] #[]), (8, .int .i64 s10.2), (9, .int .i64 s37.2), (21, .bool true), (22, .func (.func 116) #[] #[]), (23, .slice A0 s37.1.length c0), (24, .int .i64 s37.2)] (rng 7 7) (CC.refl (fma ⟨fun q hq => (mal hq), nim⟩)) ?_
      obtain ⟨x60, hx61, hj55⟩ := bind_some hj55
      obtain ⟨p62, cs63, hR64, hA65, ha66, hg68⟩ := OwnS.ixAtG hx61 hO42
      have hi67 := ix_some hx61
      obtain rfl := kS49_open hR64
      refine gd_q (v := .pointer (some p62)) (by kernel_rfl) (by kernel_rfl) (CC.refl (fma ⟨fun q hq => (mal hq), nim⟩)) (fun I' L' T hC kk => gl_indexAddrF (c := c0) (T' := 22) (e := 50) (xs := (.tmp 23)) (xi := (.tmp 24)) (kd := .i64) ha66 hi67.1 hi67.2.1 (by kernel_rfl) (by kernel_rfl) (by kernel_rfl) (by kernel_rfl) (by kernel_rfl) kk) ?_
      refine gd_q (v := .agg #[.string x60.f0, .string x60.f1]) (by kernel_rfl) (by kernel_rfl) (CC.refl (fma ⟨fun q hq => (mal hq), nim⟩)) (fun I' L' T hC kk => gl_loadOA (T' := 50) (xp := (.tmp 25)) (p := p62) (cs := [.string x60.f0, .string x60.f1]) (by kernel_rfl) (by kernel_rfl) (by kernel_rfl) (by kernel_rfl) ((hA65 _ _ (fun q hq => hC.sub _ (mal hq))).take 2) kk) ?_
      refine dp 3 [0, 1, 2, 3, 8, 9, 21, 22, 26, 27, 29] [(0, .slice A0 s37.1.length c0), (1, .int .i64 a1), (2, .int .i64 a2), (3, .func (.func 116) #[] #[]), (8, .int .i64 s10.2), (9, .int .i64 s37.2), (21, .bool true), (22, .func (.func 116) #[] #[]), (26, .agg #[.string x60.f0, .string x60.f1]), (27, .slice A0 s37.1.length c0), (29, .int .i64 (IntKind.wrap .i64 (s37.2 - 1)))] [(12, true), (13, true)] (CC.refl (fma ⟨fun q hq => (mal hq), nim⟩)) ?_
      obtain ⟨x69, hx70, hj55⟩ := bind_some hj55
      obtain ⟨p71, cs72, hR73, hA74, ha75, hg77⟩ := OwnS.ixAtG hx70 hO42
      have hi76 := ix_some hx70
      obtain rfl := kS49_open hR73
      refine gd_q (v := .pointer (some p71)) (by kernel_rfl) (by kernel_rfl) (CC.refl (fma ⟨fun q hq => (mal hq), nim⟩)) (fun I' L' T hC kk => gl_indexAddrF (c := c0) (T' := 22) (e := 50) (xs := (.tmp 27)) (xi := (.tmp 29)) (kd := .i64) ha75 hi76.1 hi76.2.1 (by kernel_rfl) (by kernel_rfl) (by kernel_rfl) (by kernel_rfl) (by kernel_rfl) kk) ?_
      refine gd_q (v := .agg #[.string x69.f0, .string x69.f1]) (by kernel_rfl) (by kernel_rfl) (CC.refl (fma ⟨fun q hq => (mal hq), nim⟩)) (fun I' L' T hC kk => gl_loadOA (T' := 50) (xp := (.tmp 30)) (p := p71) (cs := [.string x69.f0, .string x69.f1]) (by kernel_rfl) (by kernel_rfl) (by kernel_rfl) (by kernel_rfl) ((hA74 _ _ (fun q hq => hC.sub _ (mal hq))).take 2) kk) ?_
      refine gd_done ?_
      refine gl_callQ (by kernel_rfl) (labels_sorted_1_walk (r := (labels_sorted_1 x60 x69))  rfl _) ?_
      refine qp 2 [0, 1, 2, 3, 8, 9, 34] [(0, .slice A0 s37.1.length c0), (1, .int .i64 a1), (2, .int .i64 a2), (3, .func (.func 116) #[] #[]), (8, .int .i64 s10.2), (9, .int .i64 s37.2), (34, .bool (decide ((labels_sorted_1 x60 x69) < 0)))] (qE ?_)
      obtain rfl := some_inj hj55
      exact ge_mid fun t ht => ⟨(Imm.refl _), rfl, ht.pick (l := [0, 1, 2, 3, 8, 9, 34]) (by kernel_rfl)⟩
     ·have hj55 := cond_f hc59 hj55
      refine dp 10 [0, 1, 2, 3, 8, 9, 21, 22, 26, 31] [(0, .slice A0 s37.1.length c0), (1, .int .i64 a1), (2, .int .i64 a2), (3, .func (.func 116) #[] #[]), (8, .int .i64 s10.2), (9, .int .i64 s37.2), (21, .bool false), (22, undef), (26, undef), (31, undef)] [] (CC.refl (fma ⟨fun q hq => (mal hq), nim⟩)) ?_
      refine gd_done ?_
      refine qp 3 [0, 1, 2, 3, 8, 9, 34] [(0, .slice A0 s37.1.length c0), (1, .int .i64 a1), (2, .int .i64 a2), (3, .func (.func 116) #[] #[]), (8, .int .i64 s10.2), (9, .int .i64 s37.2), (34, .bool false)] (qE ?_)
      obtain rfl := some_inj hj55
      exact ge_mid fun t ht => ⟨(Imm.refl _), rfl, ht.pick (l := [0, 1, 2, 3, 8, 9, 34]) (by kernel_rfl)⟩
    ·rintro t I58 L' ⟨hI56, rfl, hK57⟩
     refine ge_at hK57 ?_
     refine qs ?_
     refine gk_cond (b := j54) (by kernel_rfl) (by kernel_rfl) (fun hc78 => ?_) (fun hc78 => ?_)
     ·have hb39 := cond_t hc78 hb39
      refine qx (qs (qk (qb ?_)))
      refine gk_drawS 17 [(0, true), (1, true), (2, true), (3, true), (4, true), (5, true), (6, true), (7, true), (8, true), (9, true), (10, true), (11, true), (12, true), (13, true), (14, false), (15, false), (16, false)] [9, 13] [] (C41 ++ []) (fma ⟨fun q hq => (mal hq), nim⟩) (fun p hp => List.mem_append_right _ ((fun p hp => hp) p hp)) (by kernel_rfl) (by kernel_rfl) (by kernel_rfl) ?_ (by kernel_rfl)
      refine dp 8 [0, 1, 2, 3, 8, 9, 37, 38, 39, 41, 42, 44] [(0, .slice A0 s37.1.length c0), (1, .int .i64 a1), (2, .int .i64 a2), (3, .func (.func 116) #[] #[]), (8, .int .i64 s10.2), (9, .int .i64 s37.2), (37, .slice A0 s37.1.length c0), (38, .int .i64 s37.2), (39, .slice A0 s37.1.length c0), (41, .int .i64 (IntKind.wrap .i64 (s37.2 - 1))), (42, .slice A0 s37.1.length c0), (44, .int .i64 (IntKind.wrap .i64 (s37.2 - 1)))] [(8, true), (9, true), (10, true), (11, true), (12, true), (13, true), (14, false), (15, false), (16, false)] (CC.refl (fma ⟨fun q hq => (mal hq), nim⟩)) ?_
      obtain ⟨x79, hx80, hb39⟩ := bind_some hb39
      obtain ⟨p81, cs82, hR83, hA84, ha85, hg87⟩ := OwnS.ixAtG hx80 (hO42.mono hI56)
      have hi86 := ix_some hx80
      obtain rfl := kS49_open hR83
      refine gd_q (v := .pointer (some p81)) (by kernel_rfl) (by kernel_rfl) (CC.refl (fma ⟨fun q hq => (mal hq), nim⟩)) (fun I' L' T hC kk => gl_indexAddrF (c := c0) (T' := 22) (e := 50) (xs := (.tmp 42)) (xi := (.tmp 44)) (kd := .i64) ha85 hi86.1 hi86.2.1 (by kernel_rfl) (by kernel_rfl) (by kernel_rfl) (by kernel_rfl) (by kernel_rfl) kk) ?_
      refine gd_q (v := .agg #[.string x79.f0, .string x79.f1]) (by kernel_rfl) (by kernel_rfl) (CC.refl (fma ⟨fun q hq => (mal hq), nim⟩)) (fun I' L' T hC kk => gl_loadOA (T' := 50) (xp := (.tmp 45)) (p := p81) (cs := [.string x79.f0, .string x79.f1]) (by kernel_rfl) (by kernel_rfl) (by kernel_rfl) (by kernel_rfl) ((hA84 _ _ (fun q hq => hC.sub _ (mal hq))).take 2) kk) ?_
      refine dp 2 [0, 1, 2, 3, 8, 9, 37, 38, 39, 41, 46, 47, 48] [(0, .slice A0 s37.1.length c0), (1, .int .i64 a1), (2, .int .i64 a2), (3, .func (.func 116) #[] #[]), (8, .int .i64 s10.2), (9, .int .i64 s37.2), (37, .slice A0 s37.1.length c0), (38, .int .i64 s37.2), (39, .slice A0 s37.1.length c0), (41, .int .i64 (IntKind.wrap .i64 (s37.2 - 1))), (46, .agg #[.string x79.f0, .string x79.f1]), (47, .slice A0 s37.1.length c0), (48, .int .i64 s37.2)] [(12, true), (13, true), (14, false), (15, false), (16, false)] (CC.refl (fma ⟨fun q hq => (mal hq), nim⟩)) ?_
      obtain ⟨x88, hx89, hb39⟩ := bind_some hb39
      obtain ⟨p90, cs91, hR92, hA93, ha94, hg96⟩ := OwnS.ixAtG hx89 (hO42.mono hI56)
      have hi95 := ix_some hx89
      obtain rfl := kS49_open hR92
      refine gd_q (v := .pointer (some p90)) (by kernel_rfl) (by kernel_rfl) (CC.refl (fma ⟨fun q hq => (mal hq), nim⟩)) (fun I' L' T hC kk => gl_indexAddrF (c := c0) (T' := 22) (e := 50) (xs := (.tmp 47)) (xi := (.tmp 48)) (kd := .i64) ha94 hi95.1 hi95.2.1 (by kernel_rfl) (by kernel_rfl) (by kernel_rfl) (by kernel_rfl) (by kernel_rfl) kk) ?_
      refine gd_q (v := .agg #[.string x88.f0, .string x88.f1]) (by kernel_rfl) (by kernel_rfl) (CC.refl (fma ⟨fun q hq => (mal hq), nim⟩)) (fun I' L' T hC kk => gl_loadOA (T' := 50) (xp := (.tmp 49)) (p := p90) (cs := [.string x88.f0, .string x88.f1]) (by kernel_rfl) (by kernel_rfl) (by kernel_rfl) (by kernel_rfl) ((hA93 _ _ (fun q hq => hC.sub _ (mal hq))).take 2) kk) ?_
      refine gd_one (by kernel_rfl) ?_
      obtain ⟨x97, hx98, hb39⟩ := bind_some hb39
      refine gl_indexAddrW (d := kS49) (c := c0) (T' := 22) (e := 50) (xs := (.tmp 37)) (xi := (.tmp 38)) (kd := .i64) hx98 (hO42.mono hI56) (Upd.selfC _ _) (by kernel_rfl) (by kernel_rfl) (by kernel_rfl) (by kernel_rfl) (by kernel_rfl) (fun p99 cs100 hR101 hA102 hp105 => ?_)
      obtain rfl := kS49_open hR101
      refine gl_toD (by kernel_rfl) ⟨(Imm.refl _), (fma ⟨fun q hq => (mal hq), nim⟩)⟩ ?_
      refine gd_flip (by kernel_rfl) (by kernel_rfl) ?_
      have hl108 : s37.1.length = (lset s37.1 s37.2 x79).length := by simp [lset]
      refine gl_storeE (d := kS49) (T' := 50) (xp := (.tmp 51)) (xv := (.tmp 46)) (v := .agg #[.string x79.f0, .string x79.f1]) (off := 0) (y := x79) (fun X => X ++ L) hx98 (hO42.mono hI56) (fun X => (Upd.head _ X _)) hp105 (by kernel_rfl) (by kernel_rfl) (by kernel_rfl) (by kernel_rfl) (by kernel_rfl) (by kernel_rfl) (fun cs h => by obtain rfl := kS49_open h; exact kS49_mk (x := x79) ) (by kernel_rfl) (fun C106 hO107 => ?_)
      try rw [hl108]
      refine gl_toD (by kernel_rfl) ⟨(Imm.refl _), nim⟩ ?_
      refine gd_one (by kernel_rfl) ?_
      obtain ⟨x109, hx110, hb39⟩ := bind_some hb39
      refine gl_indexAddrW (d := kS49) (c := c0) (T' := 22) (e := 50) (xs := (.tmp 39)) (xi := (.tmp 41)) (kd := .i64) hx110 hO107 (Upd.selfC _ _) (by kernel_rfl) (by kernel_rfl) (by kernel_rfl) (by kernel_rfl) (by kernel_rfl) (fun p111 cs112 hR113 hA114 hp117 => ?_)
      obtain rfl := kS49_open hR113
      refine gl_toD (by kernel_rfl) ⟨(Imm.refl _), nim⟩ ?_
      refine gd_done ?_
      have hl120 : (lset s37.1 s37.2 x79).length = (lset (lset s37.1 s37.2 x79) (IntKind.wrap .i64 (s37.2 - 1)) x88).length := by simp [lset]
      refine gl_storeE (d := kS49) (T' := 50) (xp := (.tmp 52)) (xv := (.tmp 50)) (v := .agg #[.string x88.f0, .string x88.f1]) (off := 0) (y := x88) (fun X => X ++ L) hx110 hO107 (fun X => (Upd.head _ X _)) hp117 (by kernel_rfl) (by kernel_rfl) (by kernel_rfl) (by kernel_rfl) (by kernel_rfl) (by kernel_rfl) (fun cs h => by obtain rfl := kS49_open h; exact kS49_mk (x := x88) ) (by kernel_rfl) (fun C118 hO119 => ?_)
      try rw [hl120]
      refine qE (qn (qs (qR (qp 3 [0, 1, 2, 3, 8, 9] [(0, .slice A0 (lset (lset s37.1 s37.2 x79) (IntKind.wrap .i64 (s37.2 - 1)) x88).length c0), (1, .int .i64 a1), (2, .int .i64 a2), (3, .func (.func 116) #[] #[]), (8, .int .i64 s10.2), (9, .int .i64 (IntKind.wrap .i64 (s37.2 - 1)))] (qE ?_)))))
      obtain rfl := some_inj hb39
      exact ge_round fun t ht => ⟨C118, hO119, (Eq.trans (lset_length _ _ _) (Eq.trans (lset_length _ _ _) hL43)), (Imm.trans hI40 hI56), rfl, ht.pick (l := [0, 1, 2, 3, 8, 9]) (by kernel_rfl)⟩
     ·have hb39 := cond_f hc78 hb39
      refine qe (qf ?_)
      obtain rfl := some_inj hb39
      refine ge_round_out (fun hrr => ?_) (by intro h; cases h)
      obtain rfl := hrr
      refine qh ?_
      exact ge_mid fun t ht => ⟨C41, (hO42.mono hI56), hL43, (Imm.trans hI40 hI56), rfl, ht.pick (l := [0, 1, 2, 3, 8]) (by kernel_rfl)⟩
   ·rintro t I51 L' ⟨C47, hO48, hL49, hI46, rfl, hK50⟩
    refine ge_at hK50 ?_
    refine qn (qs (qR (qp 3 [0, 1, 2, 3, 8] [(0, .slice A0 r35.length c0), (1, .int .i64 a1), (2, .int .i64 a2), (3, .func (.func 116) #[] #[]), (8, .int .i64 (IntKind.wrap .i64 (s10.2 + 1)))] (qE ?_))))
    obtain rfl := some_inj hb12
    exact ge_round fun t ht => ⟨C47, hO48, hL49, (Imm.trans hI13 hI46), rfl, ht.pick (l := [0, 1, 2, 3, 8]) (by kernel_rfl)⟩
  ·have hb12 := cond_f hc27 hb12
   refine qe (qf ?_)
   obtain rfl := some_inj hb12
   refine ge_round_out (fun hrr => ?_) (by intro h; cases h)
   obtain rfl := hrr
   refine qh ?_
   exact ge_mid fun t ht => ⟨C14, hO15, hL16, hI13, rfl, ht.pick (l := [0]) (by kernel_rfl)⟩
 ·rintro t I24 L' ⟨C20, hO21, hL22, hI19, rfl, hK23⟩
  refine ge_at hK23 ?_
  obtain rfl := some_inj hr
  exact ge_result trivial ResOk.nil hI19 ⟨C20, hO21, hL22, rfl, rfl⟩
/-! 174 slices_swapRangeCmpFunc ('inp', 'imm', 'imm', 'imm', ('cfn', 116)) -/
noncomputable def slices_swapRangeCmpFunc_l25 (a1 : Int) (a2 : Int) (a3 : Int) : ((List S49) × Int) → Option (((List S49) × Int) ⊕ ((List S49))) := fun s10 =>
 bif (decide (s10.2 < a3)) then
 (Option.bind (ix s10.1 (IntKind.wrap .i64 (a2 + s10.2))) fun (x28 : S49) =>
  Option.bind (ix s10.1 (IntKind.wrap .i64 (a1 + s10.2))) fun (x37 : S49) =>
  Option.bind (ix s10.1 (IntKind.wrap .i64 (a1 + s10.2))) fun (x46 : S49) =>
  Option.bind (ix (lset s10.1 (IntKind.wrap .i64 (a1 + s10.2)) x28) (IntKind.wrap .i64 (a2 + s10.2))) fun (x58 : S49) =>
  some (Sum.inl ((lset (lset s10.1 (IntKind.wrap .i64 (a1 + s10.2)) x28) (IntKind.wrap .i64 (a2 + s10.2)) x37), (IntKind.wrap .i64 (s10.2 + 1)))))
 else
 (some (Sum.inr s10.1))
noncomputable def slices_swapRangeCmpFunc (a0 : List S49) (a1 : Int) (a2 : Int) (a3 : Int) : Option (List S49) :=
 Option.bind (loopO (slices_swapRangeCmpFunc_l25 a1 a2 a3) (a0, 0)) fun (r8 : (List S49)) =>
 some r8
theorem slices_swapRangeCmpFunc_walk {a0 : List S49} {A0 : Option Addr} {c0 : Nat} {C0 : Own} {a1 : Int} {a2 : Int} {a3 : Int} {I : Imm} {r : (List S49)} (hO0 : OwnS kS49 50 I A0 c0 a0 C0) (hr : slices_swapRangeCmpFunc a0 a1 a2 a3 = some r) (L : Own) :
  CallsTo Tryz.prog 174 #[.slice A0 a0.length c0, .int .i64 a1, .int .i64 a2, .int .i64 a3, .func (.func 116) #[] #[]] I (C0 ++ L) (fun v I' L' => ∃ C0, OwnS kS49 50 I' A0 c0 r C0 ∧ r.length = a0.length ∧ v = .tuple #[] ∧ C0 ++ L = L') := by
 unfold slices_swapRangeCmpFunc at hr
 refine callsTo_body (N := 38) Tryz.func174 (by kernel_rfl) (by kernel_rfl) (by kernel_rfl) ?_
 refine qq [0, 1, 2, 3, 4] [(0, .slice A0 a0.length c0), (1, .int .i64 a1), (2, .int .i64 a2), (3, .int .i64 a3), (4, .func (.func 116) #[] #[])] (qk (qR (qp 1 [0, 1, 2, 3, 10] [(0, .slice A0 a0.length c0), (1, .int .i64 a1), (2, .int .i64 a2), (3, .int .i64 a3), (10, .int .i64 0)] (qE (qs ?_)))))
 obtain ⟨r8, hl9, hr⟩ := bind_some hr
 refine gk_join (fun t I' L' => ∃ C20, OwnS kS49 50 I' A0 c0 r8 C20 ∧ (r8.length = a0.length) ∧ I ≤ I' ∧ C20 ++ L = L' ∧ Knows 38 [(0, .slice A0 r8.length c0)] t) ?_ ?_
 ·refine qb (qq [0, 1, 2, 3, 10] [(0, .slice A0 a0.length c0), (1, .int .i64 a1), (2, .int .i64 a2), (3, .int .i64 a3), (10, .int .i64 0)] ?_)
  intro t hK
  refine gc_loop (slices_swapRangeCmpFunc_l25 a1 a2 a3) (fun s10 t I' L' => ∃ C14, OwnS kS49 50 I' A0 c0 s10.1 C14 ∧ (s10.1.length = a0.length) ∧ I ≤ I' ∧ C14 ++ L = L' ∧ Knows 38 [(0, .slice A0 s10.1.length c0), (1, .int .i64 a1), (2, .int .i64 a2), (3, .int .i64 a3), (10, .int .i64 s10.2)] t) (by kernel_rfl) ?_ hl9 ⟨C0, hO0, rfl, (Imm.refl _), rfl, hK⟩
  rintro s10 o11 t I18 L' hb12 ⟨C14, hO15, hL16, hI13, rfl, hK17⟩
  unfold slices_swapRangeCmpFunc_l25 at hb12
  refine gk_at hK17 ?_
  refine qk (qk (qR (qp 3 [0, 1, 2, 3, 10, 13] [(0, .slice A0 s10.1.length c0), (1, .int .i64 a1), (2, .int .i64 a2), (3, .int .i64 a3), (10, .int .i64 s10.2), (13, .bool (decide (s10.2 < a3)))] (qE (qs ?_)))))
  refine gk_cond (b := (decide (s10.2 < a3))) (by kernel_rfl) (by kernel_rfl) (fun hc27 => ?_) (fun hc27 => ?_)
  ·have hb12 := cond_t hc27 hb12
   refine qx (qs (qk (qb ?_)))
   refine gk_drawS 23 [(0, true), (1, true), (2, true), (3, true), (4, true), (5, true), (6, true), (7, true), (8, true), (9, true), (10, true), (11, true), (12, true), (13, true), (14, true), (15, true), (16, true), (17, true), (18, true), (19, true), (20, false), (21, false), (22, false)] [13, 19] [] (C14 ++ []) (fma ⟨fun q hq => (mal hq), nim⟩) (fun p hp => List.mem_append_right _ ((fun p hp => hp) p hp)) (by kernel_rfl) (by kernel_rfl) (by kernel_rfl) ?_ (by kernel_rfl)
   refine dp 12 [0, 1, 2, 3, 10, 16, 19, 20, 23, 24, 27] [(0, .slice A0 s10.1.length c0), (1, .int .i64 a1), (2, .int .i64 a2), (3, .int .i64 a3), (10, .int .i64 s10.2), (16, .slice A0 s10.1.length c0), (19, .int .i64 (IntKind.wrap .i64 (a1 + s10.2))), (20, .slice A0 s10.1.length c0), (23, .int .i64 (IntKind.wrap .i64 (a2 + s10.2))), (24, .slice A0 s10.1.length c0), (27, .int .i64 (IntKind.wrap .i64 (a2 + s10.2)))] [(12, true), (13, true), (14, true), (15, true), (16, true), (17, true), (18, true), (19, true), (20, false), (21, false), (22, false)] (CC.refl (fma ⟨fun q hq => (mal hq), nim⟩)) ?_
   obtain ⟨x28, hx29, hb12⟩ := bind_some hb12
   obtain ⟨p30, cs31, hR32, hA33, ha34, hg36⟩ := OwnS.ixAtG hx29 hO15
   have hi35 := ix_some hx29
   obtain rfl := kS49_open hR32
   refine gd_q (v := .pointer (some p30)) (by kernel_rfl) (by kernel_rfl) (CC.refl (fma ⟨fun q hq => (mal hq), nim⟩)) (fun I' L' T hC kk => gl_indexAddrF (c := c0) (T' := 22) (e := 50) (xs := (.tmp 24)) (xi := (.tmp 27)) (kd := .i64) ha34 hi35.1 hi35.2.1 (by kernel_rfl) (by kernel_rfl) (by kernel_rfl) (by kernel_rfl) (by kernel_rfl) kk) ?_
   refine gd_q (v := .agg #[.string x28.f0, .string x28.f1]) (by kernel_rfl) (by kernel_rfl) (CC.refl (fma ⟨fun q hq => (mal hq), nim⟩)) (fun I' L' T hC kk => gl_loadOA (T' := 50) (xp := (.tmp 28)) (p := p30) (cs := [.string x28.f0, .string x28.f1]) (by kernel_rfl) (by kernel_rfl) (by kernel_rfl) (by kernel_rfl) ((hA33 _ _ (fun q hq => hC.sub _ (mal hq))).take 2) kk) ?_
   refine dp 4 [0, 1, 2, 3, 10, 16, 19, 20, 23, 29, 30, 33] [(0, .slice A0 s10.1.length c0), (1, .int .i64 a1), (2, .int .i64 a2), (3, .int .i64 a3), (10, .int .i64 s10.2), (16, .slice A0 s10.1.length c0), (19, .int .i64 (IntKind.wrap .i64 (a1 + s10.2))), (20, .slice A0 s10.1.length c0), (23, .int .i64 (IntKind.wrap .i64 (a2 + s10.2))), (29, .agg #[.string x28.f0, .string x28.f1]), (30, .slice A0 s10.1.length c0), (33, .int .i64 (IntKind.wrap .i64 (a1 + s10.2)))] [(18, true), (19, true), (20, false), (21, false), (22, false)] (CC.refl (fma ⟨fun q hq => (mal hq), nim⟩)) ?_
   obtain ⟨x37, hx38, hb12⟩ := bind_some hb12
   obtain ⟨p39, cs40, hR41, hA42, ha43, hg45⟩ := OwnS.ixAtG hx38 hO15
   have hi44 := ix_some hx38
   obtain rfl := kS49_open hR41
   refine gd_q (v := .pointer (some p39)) (by kernel_rfl) (by kernel_rfl) (CC.refl (fma ⟨fun q hq => (mal hq), nim⟩)) (fun I' L' T hC kk => gl_indexAddrF (c := c0) (T' := 22) (e := 50) (xs := (.tmp 30)) (xi := (.tmp 33)) (kd := .i64) ha43 hi44.1 hi44.2.1 (by kernel_rfl) (by kernel_rfl) (by kernel_rfl) (by kernel_rfl) (by kernel_rfl) kk) ?_
   refine gd_q (v := .agg #[.string x37.f0, .string x37.f1]) (by kernel_rfl) (by kernel_rfl) (CC.refl (fma ⟨fun q hq => (mal hq), nim⟩)) (fun I' L' T hC kk => gl_loadOA (T' := 50) (xp := (.tmp 34)) (p := p39) (cs := [.string x37.f0, .string x37.f1]) (by kernel_rfl) (by kernel_rfl) (by kernel_rfl) (by kernel_rfl) ((hA42 _ _ (fun q hq => hC.sub _ (mal hq))).take 2) kk) ?_
   refine gd_one (by kernel_rfl) ?_
   obtain ⟨x46, hx47, hb12⟩ := bind_some hb12
   refine gl_indexAddrW (d := kS49) (c := c0) (T' := 22) (e := 50) (xs := (.tmp 16)) (xi := (.tmp 19)) (kd := .i64) hx47 hO15 (Upd.selfC _ _) (by kernel_rfl) (by kernel_rfl) (by kernel_rfl) (by kernel_rfl) (by kernel_rfl) (fun p48 cs49 hR50 hA51 hp54 => ?_)
   obtain rfl := kS49_open hR50
   refine gl_toD (by kernel_rfl) ⟨(Imm.refl _), (fma ⟨fun q hq => (mal hq), nim⟩)⟩ ?_
   refine gd_flip (by kernel_rfl) (by kernel_rfl) ?_
   have hl57 : s10.1.length = (lset s10.1 (IntKind.wrap .i64 (a1 + s10.2)) x28).length := by simp [lset]
   refine gl_storeE (d := kS49) (T' := 50) (xp := (.tmp 36)) (xv := (.tmp 29)) (v := .agg #[.string x28.f0, .string x28.f1]) (off := 0) (y := x28) (fun X => X ++ L) hx47 hO15 (fun X => (Upd.head _ X _)) hp54 (by kernel_rfl) (by kernel_rfl) (by kernel_rfl) (by kernel_rfl) (by kernel_rfl) (by kernel_rfl) (fun cs h => by obtain rfl := kS49_open h; exact kS49_mk (x := x28) ) (by kernel_rfl) (fun C55 hO56 => ?_)
   try rw [hl57]
   refine gl_toD (by kernel_rfl) ⟨(Imm.refl _), nim⟩ ?_
   refine gd_one (by kernel_rfl) ?_
   obtain ⟨x58, hx59, hb12⟩ := bind_some hb12
   refine gl_indexAddrW (d := kS49) (c := c0) (T' := 22) (e := 50) (xs := (.tmp 20)) (xi := (.tmp 23)) (kd := .i64) hx59 hO56 (Upd.selfC _ _) (by kernel_rfl) (by kernel_rfl) (by kernel_rfl) (by kernel_rfl) (by kernel_rfl) (fun p60 cs61 hR62 hA63 hp66 => ?_)
   obtain rfl := kS49_open hR62
   refine gl_toD (by kernel_rfl) ⟨(Imm.refl _), nim⟩ ?_
   refine gd_done ?_
   have hl69 : (lset s10.1 (IntKind.wrap .i64 (a1 + s10.2)) x28).length = (lset (lset s10.1 (IntKind.wrap .i64 (a1 + s10.2)) x28) (IntKind.wrap .i64 (a2 + s10.2)) x37).length := by simp [lset]
   refine gl_storeE (d := kS49) (T' := 50) (xp := (.tmp 37)) (xv := (.tmp 35)) (v := .agg #[.string x37.f0, .string x37.f1]) (off := 0) (y := x37) (fun X => X ++ L) hx59 hO56 (fun X => (Upd.head _ X _)) hp66 (by kernel_rfl) (by kernel_rfl) (by kernel_rfl) (by kernel_rfl) (by kernel_rfl) (by kernel_rfl) (fun cs h => by obtain rfl := kS49_open h; exact kS49_mk (x := x37) ) (by kernel_rfl) (fun C67 hO68 => ?_)
   try rw [hl69]
   refine qE (qn (qs (qR (qp 3 [0, 1, 2, 3, 10] [(0, .slice A0 (lset (lset s10.1 (IntKind.wrap .i64 (a1 + s10.2)) x28) (IntKind.wrap .i64 (a2 + s10.2)) x37).length c0), (1, .int .i64 a1), (2, .int .i64 a2), (3, .int .i64 a3), (10, .int .i64 (IntKind.wrap .i64 (s10.2 + 1)))] (qE ?_)))))
   obtain rfl := some_inj hb12
   exact ge_round fun t ht => ⟨C67, hO68, (Eq.trans (lset_length _ _ _) (Eq.trans (lset_length _ _ _) hL16)), hI13, rfl, ht.pick (l := [0, 1, 2, 3, 10]) (by kernel_rfl)⟩
  ·have hb12 := cond_f hc27 hb12
   refine qe (qf ?_)
   obtain rfl := some_inj hb12
   refine ge_round_out (fun hrr => ?_) (by intro h; cases h)
   obtain rfl := hrr
   refine qh ?_
   exact ge_mid fun t ht => ⟨C14, hO15, hL16, hI13, rfl, ht.pick (l := [0]) (by kernel_rfl)⟩
 ·rintro t I24 L' ⟨C20, hO21, hL22, hI19, rfl, hK23⟩
  refine ge_at hK23 ?_
  obtain rfl := some_inj hr
  exact ge_result trivial ResOk.nil hI19 ⟨C20, hO21, hL22, rfl, rfl⟩
/-! 162 slices_rotateCmpFunc ('inp', 'imm', 'imm', 'imm', ('cfn', 116)) -/
noncomputable def slices_rotateCmpFunc_l25 (a2 : Int) : ((List S49) × Int × Int) → Option (((List S49) × Int × Int) ⊕ ((List S49) × Int)) := fun s10 =>
 bif (s10.2.1 != s10.2.2) then
 (Option.bind (bif (decide (s10.2.1 > s10.2.2)) then
   (Option.bind (slices_swapRangeCmpFunc s10.1 (IntKind.wrap .i64 (a2 - s10.2.1)) a2 s10.2.2) fun (y37 : (List S49)) =>
    some (y37, (IntKind.wrap .i64 (s10.2.1 - s10.2.2)), s10.2.2))
   else
   (Option.bind (slices_swapRangeCmpFunc s10.1 (IntKind.wrap .i64 (a2 - s10.2.1)) (IntKind.wrap .i64 ((IntKind.wrap .i64 (a2 + s10.2.2)) - s10.2.1)) s10.2.1) fun (y45 : (List S49)) =>
    some (y45, s10.2.1, (IntKind.wrap .i64 (s10.2.2 - s10.2.1))))) fun (j28 : (List S49) × Int × Int) =>
  some (Sum.inl (j28.1, j28.2.1, j28.2.2)))
 else
 (some (Sum.inr (s10.1, s10.2.1)))
noncomputable def slices_rotateCmpFunc (a0 : List S49) (a1 : Int) (a2 : Int) (a3 : Int) : Option (List S49) :=
 Option.bind (loopO (slices_rotateCmpFunc_l25 a2) (a0, (IntKind.wrap .i64 (a2 - a1)), (IntKind.wrap .i64 (a3 - a2)))) fun (r8 : (List S49) × Int) =>
 Option.bind (slices_swapRangeCmpFunc r8.1 (IntKind.wrap .i64 (a2 - r8.2)) a2 r8.2) fun (y53 : (List S49)) =>
 some y53
theorem slices_rotateCmpFunc_walk {a0 : List S49} {A0 : Option Addr} {c0 : Nat} {C0 : Own} {a1 : Int} {a2 : Int} {a3 : Int} {I : Imm} {r : (List S49)} (hO0 : OwnS kS49 50 I A0 c0 a0 C0) (hr : slices_rotateCmpFunc a0 a1 a2 a3 = some r) (L : Own) :
  CallsTo Tryz.prog 162 #[.slice A0 a0.length c0, .int .i64 a1, .int .i64 a2, .int .i64 a3, .func (.func 116) #[] #[]] I (C0 ++ L) (fun v I' L' => ∃ C0, OwnS kS49 50 I' A0 c0 r C0 ∧ r.length = a0.length ∧ v = .tuple #[] ∧ C0 ++ L = L') := by
 unfold slices_rotateCmpFunc at hr
 refine callsTo_body (N := 58) Tryz.func162 (by kernel_rfl) (by kernel_rfl) (by kernel_rfl) ?_
 refine qq [0, 1, 2, 3, 4] [(0, .slice A0 a0.length c0), (1, .int .i64 a1), (2, .int .i64 a2), (3, .int .i64 a3), (4, .func (.func 116) #[] #[])] (qk (qR (qp 4 [0, 2, 3, 4, 10] [(0, .slice A0 a0.length c0), (2, .int .i64 a2), (3, .int .i64 a3), (4, .func (.func 116) #[] #[]), (10, .int .i64 (IntKind.wrap .i64 (a2 - a1)))] (qE (qs (qk (qR (qp 4 [0, 2, 4, 10, 11] [(0, .slice A0 a0.length c0), (2, .int .i64 a2), (4, .func (.func 116) #[] #[]), (10, .int .i64 (IntKind.wrap .i64 (a2 - a1))), (11, .int .i64 (IntKind.wrap .i64 (a3 - a2)))] (qE (qs (qk ?_)))))))))))
 obtain ⟨r8, hl9, hr⟩ := bind_some hr
 refine gk_join (fun t I' L' => ∃ C20, OwnS kS49 50 I' A0 c0 r8.1 C20 ∧ (r8.1.length = a0.length) ∧ I ≤ I' ∧ C20 ++ L = L' ∧ Knows 58 [(0, .slice A0 r8.1.length c0), (2, .int .i64 a2), (4, .func (.func 116) #[] #[]), (10, .int .i64 r8.2)] t) ?_ ?_
 ·refine qb (qq [0, 2, 4, 10, 11] [(0, .slice A0 a0.length c0), (2, .int .i64 a2), (4, .func (.func 116) #[] #[]), (10, .int .i64 (IntKind.wrap .i64 (a2 - a1))), (11, .int .i64 (IntKind.wrap .i64 (a3 - a2)))] ?_)
  intro t hK
  refine gc_loop (slices_rotateCmpFunc_l25 a2) (fun s10 t I' L' => ∃ C14, OwnS kS49 50 I' A0 c0 s10.1 C14 ∧ (s10.1.length = a0.length) ∧ I ≤ I' ∧ C14 ++ L = L' ∧ Knows 58 [(0, .slice A0 s10.1.length c0), (2, .int .i64 a2), (4, .func (.func 116) #[] #[]), (10, .int .i64 s10.2.1), (11, .int .i64 s10.2.2)] t) (by kernel_rfl) ?_ hl9 ⟨C0, hO0, rfl, (Imm.refl _), rfl, hK⟩
  rintro s10 o11 t I18 L' hb12 ⟨C14, hO15, hL16, hI13, rfl, hK17⟩
  unfold slices_rotateCmpFunc_l25 at hb12
  refine gk_at hK17 ?_
  refine qk (qk (qR (qp 3 [0, 2, 4, 10, 11, 20] [(0, .slice A0 s10.1.length c0), (2, .int .i64 a2), (4, .func (.func 116) #[] #[]), (10, .int .i64 s10.2.1), (11, .int .i64 s10.2.2), (20, .bool (s10.2.1 != s10.2.2))] (qE (qs ?_)))))
  refine gk_cond (b := (s10.2.1 != s10.2.2)) (by kernel_rfl) (by kernel_rfl) (fun hc27 => ?_) (fun hc27 => ?_)
  ·have hb12 := cond_t hc27 hb12
   refine qx (qs (qb (qk (qR (qp 3 [0, 2, 4, 10, 11, 23] [(0, .slice A0 s10.1.length c0), (2, .int .i64 a2), (4, .func (.func 116) #[] #[]), (10, .int .i64 s10.2.1), (11, .int .i64 s10.2.2), (23, .bool (decide (s10.2.1 > s10.2.2)))] (qE (qs ?_)))))))
   obtain ⟨j28, hj29, hb12⟩ := bind_some hb12
   refine gk_join (fun t I' L' => ∃ C31, OwnS kS49 50 I' A0 c0 j28.1 C31 ∧ (j28.1.length = a0.length) ∧ I18 ≤ I' ∧ C31 ++ L = L' ∧ Knows 58 [(0, .slice A0 j28.1.length c0), (2, .int .i64 a2), (4, .func (.func 116) #[] #[]), (10, .int .i64 j28.2.1), (11, .int .i64 j28.2.2)] t) ?_ ?_
   ·refine gk_cond (b := (decide (s10.2.1 > s10.2.2))) (by kernel_rfl) (by kernel_rfl) (fun hc36 => ?_) (fun hc36 => ?_)
    ·have hj29 := cond_t hc36 hj29
     refine qk (qR (qp 7 [0, 2, 4, 10, 11, 24, 27, 28, 29, 30] [(0, .slice A0 s10.1.length c0), (2, .int .i64 a2), (4, .func (.func 116) #[] #[]), (10, .int .i64 s10.2.1), (11, .int .i64 s10.2.2), (24, .slice A0 s10.1.length c0), (27, .int .i64 (IntKind.wrap .i64 (a2 - s10.2.1))), (28, .int .i64 a2), (29, .int .i64 s10.2.2), (30, .func (.func 116) #[] #[])] ?_))
     obtain ⟨y37, hx38, hj29⟩ := bind_some hj29
     refine gl_call (by kernel_rfl) (slices_swapRangeCmpFunc_walk (r := y37) (A0 := A0) (c0 := c0) (C0 := C14) (a0 := s10.1) hO15 hx38 _) ?_
     rintro v I39 L40 hI41 ⟨C42, hO43, hO44, rfl, rfl⟩
     refine gl_pick [0, 2, 4, 10, 11, 24, 27, 28, 29, 30, 31] (K' := [(0, .slice A0 s10.1.length c0), (2, .int .i64 a2), (4, .func (.func 116) #[] #[]), (10, .int .i64 s10.2.1), (11, .int .i64 s10.2.2), (24, .slice A0 s10.1.length c0), (27, .int .i64 (IntKind.wrap .i64 (a2 - s10.2.1))), (28, .int .i64 a2), (29, .int .i64 s10.2.2), (30, .func (.func 116) #[] #[]), (31, .tuple #[])]) (by kernel_rfl) ?_
     refine gl_kv (congrArg (fun (zz : Nat) => ([(0, .slice A0 zz c0), (2, .int .i64 a2), (4, .func (.func 116) #[] #[]), (10, .int .i64 s10.2.1), (11, .int .i64 s10.2.2), (24, .slice A0 zz c0), (27, .int .i64 (IntKind.wrap .i64 (a2 - s10.2.1))), (28, .int .i64 a2), (29, .int .i64 s10.2.2), (30, .func (.func 116) #[] #[]), (31, .tuple #[])] : KV)) hO44.symm) ?_
     refine qE (qs (qR (qp 4 [0, 2, 4, 10, 11] [(0, .slice A0 y37.length c0), (2, .int .i64 a2), (4, .func (.func 116) #[] #[]), (10, .int .i64 (IntKind.wrap .i64 (s10.2.1 - s10.2.2))), (11, .int .i64 s10.2.2)] (qE ?_))))
     obtain rfl := some_inj hj29
     exact ge_mid fun t ht => ⟨C42, hO43, (Eq.trans hO44 hL16), hI41, rfl, ht.pick (l := [0, 2, 4, 10, 11]) (by kernel_rfl)⟩
    ·have hj29 := cond_f hc36 hj29
     refine qk (qR (qp 11 [0, 2, 4, 10, 11, 35, 38, 43, 44, 45] [(0, .slice A0 s10.1.length c0), (2, .int .i64 a2), (4, .func (.func 116) #[] #[]), (10, .int .i64 s10.2.1), (11, .int .i64 s10.2.2), (35, .slice A0 s10.1.length c0), (38, .int .i64 (IntKind.wrap .i64 (a2 - s10.2.1))), (43, .int .i64 (IntKind.wrap .i64 ((IntKind.wrap .i64 (a2 + s10.2.2)) - s10.2.1))), (44, .int .i64 s10.2.1), (45, .func (.func 116) #[] #[])] ?_))
     obtain ⟨y45, hx46, hj29⟩ := bind_some hj29
     refine gl_call (by kernel_rfl) (slices_swapRangeCmpFunc_walk (r := y45) (A0 := A0) (c0 := c0) (C0 := C14) (a0 := s10.1) hO15 hx46 _) ?_
     rintro v I47 L48 hI49 ⟨C50, hO51, hO52, rfl, rfl⟩
     refine gl_pick [0, 2, 4, 10, 11, 35, 38, 43, 44, 45, 46] (K' := [(0, .slice A0 s10.1.length c0), (2, .int .i64 a2), (4, .func (.func 116) #[] #[]), (10, .int .i64 s10.2.1), (11, .int .i64 s10.2.2), (35, .slice A0 s10.1.length c0), (38, .int .i64 (IntKind.wrap .i64 (a2 - s10.2.1))), (43, .int .i64 (IntKind.wrap .i64 ((IntKind.wrap .i64 (a2 + s10.2.2)) - s10.2.1))), (44, .int .i64 s10.2.1), (45, .func (.func 116) #[] #[]), (46, .tuple #[])]) (by kernel_rfl) ?_
     refine gl_kv (congrArg (fun (zz : Nat) => ([(0, .slice A0 zz c0), (2, .int .i64 a2), (4, .func (.func 116) #[] #[]), (10, .int .i64 s10.2.1), (11, .int .i64 s10.2.2), (35, .slice A0 zz c0), (38, .int .i64 (IntKind.wrap .i64 (a2 - s10.2.1))), (43, .int .i64 (IntKind.wrap .i64 ((IntKind.wrap .i64 (a2 + s10.2.2)) - s10.2.1))), (44, .int .i64 s10.2.1), (45, .func (.func 116) #[] #[]), (46, .tuple #[])] : KV)) hO52.symm) ?_
     refine qE (qs (qR (qp 4 [0, 2, 4, 10, 11] [(0, .slice A0 y45.length c0), (2, .int .i64 a2), (4, .func (.func 116) #[] #[]), (10, .int .i64 s10.2.1), (11, .int .i64 (IntKind.wrap .i64 (s10.2.2 - s10.2.1)))] (qE ?_))))
     obtain rfl := some_inj hj29
     exact ge_mid fun t ht => ⟨C50, hO51, (Eq.trans hO52 hL16), hI49, rfl, ht.pick (l := [0, 2, 4, 10, 11]) (by kernel_rfl)⟩
   ·rintro t I35 L' ⟨C31, hO32, hL33, hI30, rfl, hK34⟩
    refine ge_at hK34 ?_
    refine qn ?_
    obtain rfl := some_inj hb12
    exact ge_round fun t ht => ⟨C31, hO32, hL33, (Imm.trans hI13 hI30), rfl, ht.pick (l := [0, 2, 4, 10, 11]) (by kernel_rfl)⟩
  ·have hb12 := cond_f hc27 hb12
   refine qe (qf ?_)
   obtain rfl := some_inj hb12
   refine ge_round_out (fun hrr => ?_) (by intro h; cases h)
   obtain rfl := hrr
   refine qh ?_
   exact ge_mid fun t ht => ⟨C14, hO15, hL16, hI13, rfl, ht.pick (l := [0, 2, 4, 10]) (by kernel_rfl)⟩
 ·rintro t I24 L' ⟨C20, hO21, hL22, hI19, rfl, hK23⟩
  refine ge_at hK23 ?_
  refine qs (qR (qp 7 [0, 50, 53, 54, 55, 56] [(0, .slice A0 r8.1.length c0), (50, .slice A0 r8.1.length c0), (53, .int .i64 (IntKind.wrap .i64 (a2 - r8.2))), (54, .int .i64 a2), (55, .int .i64 r8.2), (56, .func (.func 116) #[] #[])] ?_))
  obtain ⟨y53, hx54, hr⟩ := bind_some hr
  refine gl_call (by kernel_rfl) (slices_swapRangeCmpFunc_walk (r := y53) (A0 := A0) (c0 := c0) (C0 := C20) (a0 := r8.1) hO21 hx54 _) ?_
  rintro v I55 L56 hI57 ⟨C58, hO59, hO60, rfl, rfl⟩
  refine gl_pick [0, 50, 53, 54, 55, 56, 57] (K' := [(0, .slice A0 r8.1.length c0), (50, .slice A0 r8.1.length c0), (53, .int .i64 (IntKind.wrap .i64 (a2 - r8.2))), (54, .int .i64 a2), (55, .int .i64 r8.2), (56, .func (.func 116) #[] #[]), (57, .tuple #[])]) (by kernel_rfl) ?_
  refine gl_kv (congrArg (fun (zz : Nat) => ([(0, .slice A0 zz c0), (50, .slice A0 zz c0), (53, .int .i64 (IntKind.wrap .i64 (a2 - r8.2))), (54, .int .i64 a2), (55, .int .i64 r8.2), (56, .func (.func 116) #[] #[]), (57, .tuple #[])] : KV)) hO60.symm) ?_
  refine qE ?_
  obtain rfl := some_inj hr
  exact ge_result trivial ResOk.nil (Imm.trans hI19 hI57) ⟨C58, hO59, (Eq.trans hO60 hL22), rfl, rfl⟩
/-! 145 slices_symMergeCmpFunc ('inp', 'imm', 'imm', 'imm', ('cfn', 116)): calls itself -/
noncomputable def slices_symMergeCmpFunc_l17 (a0 : List S49) (a1 : Int) : (Int × Int) → Option ((Int × Int) ⊕ (Int)) := fun s8 =>
 bif (decide (s8.1 < s8.2)) then
 (Option.bind (ix a0 (IntKind.wrap .i64 (shr .u64 (IntKind.wrap .u64 (IntKind.wrap .i64 (s8.1 + s8.2))) 1))) fun (x20 : S49) =>
  Option.bind (ix a0 a1) fun (x29 : S49) =>
  Option.bind (bif (decide ((labels_sorted_1 x20 x29) < 0)) then
   (some ((IntKind.wrap .i64 ((IntKind.wrap .i64 (shr .u64 (IntKind.wrap .u64 (IntKind.wrap .i64 (s8.1 + s8.2))) 1)) + 1)), s8.2))
   else
   (some (s8.1, (IntKind.wrap .i64 (shr .u64 (IntKind.wrap .u64 (IntKind.wrap .i64 (s8.1 + s8.2))) 1))))) fun (j38 : Int × Int) =>
  some (Sum.inl (j38.1, j38.2)))
 else
 (some (Sum.inr s8.1))
noncomputable def slices_symMergeCmpFunc_l68 (r6 : Int) : ((List S49) × Int) → Option (((List S49) × Int) ⊕ ((List S49))) := fun s53 =>
 bif (decide (s53.2 < (IntKind.wrap .i64 (r6 - 1)))) then
 (Option.bind (ix s53.1 (IntKind.wrap .i64 (s53.2 + 1))) fun (x71 : S49) =>
  Option.bind (ix s53.1 s53.2) fun (x80 : S49) =>
  Option.bind (ix s53.1 s53.2) fun (x89 : S49) =>
  Option.bind (ix (lset s53.1 s53.2 x71) (IntKind.wrap .i64 (s53.2 + 1))) fun (x101 : S49) =>
  some (Sum.inl ((lset (lset s53.1 s53.2 x71) (IntKind.wrap .i64 (s53.2 + 1)) x80), (IntKind.wrap .i64 (s53.2 + 1)))))
 else
 (some (Sum.inr s53.1))
noncomputable def slices_symMergeCmpFunc_l129 (a0 : List S49) (a2 : Int) : (Int × Int) → Option ((Int × Int) ⊕ (Int)) := fun s120 =>
 bif (decide (s120.1 < s120.2)) then
 (Option.bind (ix a0 a2) fun (x132 : S49) =>
  Option.bind (ix a0 (IntKind.wrap .i64 (shr .u64 (IntKind.wrap .u64 (IntKind.wrap .i64 (s120.1 + s120.2))) 1))) fun (x141 : S49) =>
  Option.bind (bif (!(decide ((labels_sorted_1 x132 x141) < 0))) then
   (some ((IntKind.wrap .i64 ((IntKind.wrap .i64 (shr .u64 (IntKind.wrap .u64 (IntKind.wrap .i64 (s120.1 + s120.2))) 1)) + 1)), s120.2))
   else
   (some (s120.1, (IntKind.wrap .i64 (shr .u64 (IntKind.wrap .u64 (IntKind.wrap .i64 (s120.1 + s120.2))) 1))))) fun (j150 : Int × Int) =>
  some (Sum.inl (j150.1, j150.2)))
 else
 (some (Sum.inr s120.1))
noncomputable def slices_symMergeCmpFunc_l180 (r118 : Int) : ((List S49) × Int) → Option (((List S49) × Int) ⊕ ((List S49))) := fun s165 =>
 bif (decide (s165.2 > r118)) then
 (Option.bind (ix s165.1 (IntKind.wrap .i64 (s165.2 - 1))) fun (x183 : S49) =>
  Option.bind (ix s165.1 s165.2) fun (x192 : S49) =>
  Option.bind (ix s165.1 s165.2) fun (x201 : S49) =>
  Option.bind (ix (lset s165.1 s165.2 x183) (IntKind.wrap .i64 (s165.2 - 1))) fun (x213 : S49) =>
  some (Sum.inl ((lset (lset s165.1 s165.2 x183) (IntKind.wrap .i64 (s165.2 - 1)) x192), (IntKind.wrap .i64 (s165.2 - 1)))))
 else
 (some (Sum.inr s165.1))
noncomputable def slices_symMergeCmpFunc_l246 (a0 : List S49) (a1 : Int) (a2 : Int) (a3 : Int) : (Int × Int) → Option ((Int × Int) ⊕ (Int)) := fun s237 =>
 bif (decide (s237.1 < s237.2)) then
 (Option.bind (ix a0 (IntKind.wrap .i64 ((IntKind.wrap .i64 ((IntKind.wrap .i64 ((IntKind.wrap .i64 (shr .u64 (IntKind.wrap .u64 (IntKind.wrap .i64 (a1 + a3))) 1)) + a2)) - 1)) - (IntKind.wrap .i64 (shr .u64 (IntKind.wrap .u64 (IntKind.wrap .i64 (s237.1 + s237.2))) 1))))) fun (x249 : S49) =>
  Option.bind (ix a0 (IntKind.wrap .i64 (shr .u64 (IntKind.wrap .u64 (IntKind.wrap .i64 (s237.1 + s237.2))) 1))) fun (x258 : S49) =>
  Option.bind (bif (!(decide ((labels_sorted_1 x249 x258) < 0))) then
   (some ((IntKind.wrap .i64 ((IntKind.wrap .i64 (shr .u64 (IntKind.wrap .u64 (IntKind.wrap .i64 (s237.1 + s237.2))) 1)) + 1)), s237.2))
   else
   (some (s237.1, (IntKind.wrap .i64 (shr .u64 (IntKind.wrap .u64 (IntKind.wrap .i64 (s237.1 + s237.2))) 1))))) fun (j267 : Int × Int) =>
  some (Sum.inl (j267.1, j267.2)))
 else
 (some (Sum.inr s237.1))
noncomputable def slices_symMergeCmpFunc_b (rec_ : (List S49) → Int → Int → Int → Option (List S49)) (a0 : List S49) (a1 : Int) (a2 : Int) (a3 : Int) : Option (List S49) :=
 bif ((IntKind.wrap .i64 (a2 - a1)) == 1) then
 (Option.bind (loopO (slices_symMergeCmpFunc_l17 a0 a1) (a2, a3)) fun (r6 : Int) =>
  Option.bind (loopO (slices_symMergeCmpFunc_l68 r6) (a0, a1)) fun (r51 : (List S49)) =>
  some r51)
 else
 (bif ((IntKind.wrap .i64 (a3 - a2)) == 1) then
  (Option.bind (loopO (slices_symMergeCmpFunc_l129 a0 a2) (a1, a2)) fun (r118 : Int) =>
   Option.bind (loopO (slices_symMergeCmpFunc_l180 r118) (a0, a2)) fun (r163 : (List S49)) =>
   some r163)
  else
  (Option.bind (bif (decide (a2 > (IntKind.wrap .i64 (shr .u64 (IntKind.wrap .u64 (IntKind.wrap .i64 (a1 + a3))) 1)))) then
    (some ((IntKind.wrap .i64 ((IntKind.wrap .i64 ((IntKind.wrap .i64 (shr .u64 (IntKind.wrap .u64 (IntKind.wrap .i64 (a1 + a3))) 1)) + a2)) - a3)), (IntKind.wrap .i64 (shr .u64 (IntKind.wrap .u64 (IntKind.wrap .i64 (a1 + a3))) 1))))
    else
    (some (a1, a2))) fun (j225 : Int × Int) =>
   Option.bind (loopO (slices_symMergeCmpFunc_l246 a0 a1 a2 a3) (j225.1, j225.2)) fun (r235 : Int) =>
   Option.bind (bif ((decide (r235 < a2)) && (decide (a2 < (IntKind.wrap .i64 ((IntKind.wrap .i64 ((IntKind.wrap .i64 (shr .u64 (IntKind.wrap .u64 (IntKind.wrap .i64 (a1 + a3))) 1)) + a2)) - r235))))) then
    (Option.bind (slices_rotateCmpFunc a0 r235 a2 (IntKind.wrap .i64 ((IntKind.wrap .i64 ((IntKind.wrap .i64 (shr .u64 (IntKind.wrap .u64 (IntKind.wrap .i64 (a1 + a3))) 1)) + a2)) - r235))) fun (y288 : (List S49)) =>
     some y288)
    else
    (some a0)) fun (j279 : (List S49)) =>
   Option.bind (bif ((decide (a1 < r235)) && (decide (r235 < (IntKind.wrap .i64 (shr .u64 (IntKind.wrap .u64 (IntKind.wrap .i64 (a1 + a3))) 1))))) then
    (Option.bind (rec_ j279 a1 r235 (IntKind.wrap .i64 (shr .u64 (IntKind.wrap .u64 (IntKind.wrap .i64 (a1 + a3))) 1))) fun (y311 : (List S49)) =>
     some y311)
    else
    (some j279)) fun (j302 : (List S49)) =>
   Option.bind (bif ((decide ((IntKind.wrap .i64 (shr .u64 (IntKind.wrap .u64 (IntKind.wrap .i64 (a1 + a3))) 1)) < (IntKind.wrap .i64 ((IntKind.wrap .i64 ((IntKind.wrap .i64 (shr .u64 (IntKind.wrap .u64 (IntKind.wrap .i64 (a1 + a3))) 1)) + a2)) - r235)))) && (decide ((IntKind.wrap .i64 ((IntKind.wrap .i64 ((IntKind.wrap .i64 (shr .u64 (IntKind.wrap .u64 (IntKind.wrap .i64 (a1 + a3))) 1)) + a2)) - r235)) < a3))) then
    (Option.bind (rec_ j302 (IntKind.wrap .i64 (shr .u64 (IntKind.wrap .u64 (IntKind.wrap .i64 (a1 + a3))) 1)) (IntKind.wrap .i64 ((IntKind.wrap .i64 ((IntKind.wrap .i64 (shr .u64 (IntKind.wrap .u64 (IntKind.wrap .i64 (a1 + a3))) 1)) + a2)) - r235)) a3) fun (y334 : (List S49)) =>
     some y334)
    else
    (some j302)) fun (j325 : (List S49)) =>
   some j325))
noncomputable def slices_symMergeCmpFunc (a0 : List S49) (a1 : Int) (a2 : Int) (a3 : Int) : Option (List S49) :=
 iterF (fun (rec_ : ((List S49) × Int × Int × Int) → Option (List S49)) (x : (List S49) × Int × Int × Int) => slices_symMergeCmpFunc_b (fun a0 a1 a2 a3 => rec_ (a0, a1, a2, a3)) x.1 x.2.1 x.2.2.1 x.2.2.2) 4294967296 (a0, a1, a2, a3)
theorem slices_symMergeCmpFunc_b_walk {rec_ : (List S49) → Int → Int → Int → Option (List S49)} (rec__walk : ∀ {a0 : List S49} {A0 : Option Addr} {c0 : Nat} {C0 : Own} {a1 : Int} {a2 : Int} {a3 : Int} {I : Imm} {r : (List S49)} (hO0 : OwnS kS49 50 I A0 c0 a0 C0) (hr : rec_ a0 a1 a2 a3 = some r) (L : Own), CallsTo Tryz.prog 145 #[.slice A0 a0.length c0, .int .i64 a1, .int .i64 a2, .int .i64 a3, .func (.func 116) #[] #[]] I (C0 ++ L) (fun v I' L' => ∃ C0, OwnS kS49 50 I' A0 c0 r C0 ∧ r.length = a0.length ∧ v = .tuple #[] ∧ C0 ++ L = L')) {a0 : List S49} {A0 : Option Addr} {c0 : Nat} {C0 : Own} {a1 : Int} {a2 : Int} {a3 : Int} {I : Imm} {r : (List S49)} (hO0 : OwnS kS49 50 I A0 c0 a0 C0) (hr : slices_symMergeCmpFunc_b rec_ a0 a1 a2 a3 = some r) (L : Own) :
  CallsTo Tryz.prog 145 #[.slice A0 a0.length c0, .int .i64 a1, .int .i64 a2, .int .i64 a3, .func (.func 116) #[] #[]] I (C0 ++ L) (fun v I' L' => ∃ C0, OwnS kS49 50 I' A0 c0 r C0 ∧ r.length = a0.length ∧ v = .tuple #[] ∧ C0 ++ L = L') := by
 unfold slices_symMergeCmpFunc_b at hr
 refine callsTo_body (N := 220) Tryz.func145 (by kernel_rfl) (by kernel_rfl) (by kernel_rfl) ?_
 refine qq [0, 1, 2, 3, 4] [(0, .slice A0 a0.length c0), (1, .int .i64 a1), (2, .int .i64 a2), (3, .int .i64 a3), (4, .func (.func 116) #[] #[])] (qk (qk (qR (qp 4 [0, 1, 2, 3, 4, 28] [(0, .slice A0 a0.length c0), (1, .int .i64 a1), (2, .int .i64 a2), (3, .int .i64 a3), (4, .func (.func 116) #[] #[]), (28, .bool ((IntKind.wrap .i64 (a2 - a1)) == 1))] (qE (qs ?_))))))
 refine gk_cond (b := ((IntKind.wrap .i64 (a2 - a1)) == 1)) (by kernel_rfl) (by kernel_rfl) (fun hc1 => ?_) (fun hc1 => ?_)
 ·have hr := cond_t hc1 hr
  refine qk (qR (qp 2 [0, 1, 3, 4, 10] [(0, .slice A0 a0.length c0), (1, .int .i64 a1), (3, .int .i64 a3), (4, .func (.func 116) #[] #[]), (10, .int .i64 a2)] (qE (qs (qk (qR (qp 2 [0, 1, 4, 10, 11] [(0, .slice A0 a0.length c0), (1, .int .i64 a1), (4, .func (.func 116) #[] #[]), (10, .int .i64 a2), (11, .int .i64 a3)] (qE (qs (qk ?_))))))))))
  obtain ⟨r6, hl7, hr⟩ := bind_some hr
  refine gk_join (fun t I' L' => I ≤ I' ∧ C0 ++ L = L' ∧ Knows 220 [(0, .slice A0 a0.length c0), (1, .int .i64 a1), (10, .int .i64 r6)] t) ?_ ?_
  ·refine qb (qq [0, 1, 4, 10, 11] [(0, .slice A0 a0.length c0), (1, .int .i64 a1), (4, .func (.func 116) #[] #[]), (10, .int .i64 a2), (11, .int .i64 a3)] ?_)
   intro t hK
   refine gc_loop (slices_symMergeCmpFunc_l17 a0 a1) (fun s8 t I' L' => I ≤ I' ∧ C0 ++ L = L' ∧ Knows 220 [(0, .slice A0 a0.length c0), (1, .int .i64 a1), (4, .func (.func 116) #[] #[]), (10, .int .i64 s8.1), (11, .int .i64 s8.2)] t) (by kernel_rfl) ?_ hl7 ⟨(Imm.refl _), rfl, hK⟩
   rintro s8 o9 t I13 L' hb10 ⟨hI11, rfl, hK12⟩
   unfold slices_symMergeCmpFunc_l17 at hb10
   refine gk_at hK12 ?_
   refine qk (qk (qR (qp 3 [0, 1, 4, 10, 11, 33] [(0, .slice A0 a0.length c0), (1, .int .i64 a1), (4, .func (.func 116) #[] #[]), (10, .int .i64 s8.1), (11, .int .i64 s8.2), (33, .bool (decide (s8.1 < s8.2)))] (qE (qs ?_)))))
   refine gk_cond (b := (decide (s8.1 < s8.2))) (by kernel_rfl) (by kernel_rfl) (fun hc19 => ?_) (fun hc19 => ?_)
   ·have hb10 := cond_t hc19 hb10
    refine qx (qs (qb (qk (qR (qp 7 [0, 1, 4, 10, 11, 12] [(0, .slice A0 a0.length c0), (1, .int .i64 a1), (4, .func (.func 116) #[] #[]), (10, .int .i64 s8.1), (11, .int .i64 s8.2), (12, .int .i64 (IntKind.wrap .i64 (shr .u64 (IntKind.wrap .u64 (IntKind.wrap .i64 (s8.1 + s8.2))) 1)))] (qE (qs (qk ?_))))))))
    refine gk_draw 9 (rng 0 9) (C0 ++ []) (fma ⟨fun q hq => (mal hq), nim⟩) (by kernel_rfl) (by kernel_rfl) (by kernel_rfl) ?_ (by kernel_rfl)
    refine dp 3 [0, 1, 4, 10, 11, 12, 40, 41, 42] [(0, .slice A0 a0.length c0), (1, .int .i64 a1), (4, .func (.func 116) #[] #[]), (10, .int .i64 s8.1), (11, .int .i64 s8.2), (12, .int .i64 (IntKind.wrap .i64 (shr .u64 (IntKind.wrap .u64 (IntKind.wrap .i64 (s8.1 + s8.2))) 1))), (40, .func (.func 116) #[] #[]), (41, .slice A0 a0.length c0), (42, .int .i64 (IntKind.wrap .i64 (shr .u64 (IntKind.wrap .u64 (IntKind.wrap .i64 (s8.1 + s8.2))) 1)))] (rng 3 6) (CC.refl (fma ⟨fun q hq => (mal hq), nim⟩)) ?_
    obtain ⟨x20, hx21, hb10⟩ := bind_some hb10
    obtain ⟨p22, cs23, hR24, hA25, ha26, hg28⟩ := OwnS.ixAtG hx21 (hO0.mono hI11)
    have hi27 := ix_some hx21
    obtain rfl := kS49_open hR24
    refine gd_q (v := .pointer (some p22)) (by kernel_rfl) (by kernel_rfl) (CC.refl (fma ⟨fun q hq => (mal hq), nim⟩)) (fun I' L' T hC kk => gl_indexAddrF (c := c0) (T' := 22) (e := 50) (xs := (.tmp 41)) (xi := (.tmp 42)) (kd := .i64) ha26 hi27.1 hi27.2.1 (by kernel_rfl) (by kernel_rfl) (by kernel_rfl) (by kernel_rfl) (by kernel_rfl) kk) ?_
    refine gd_q (v := .agg #[.string x20.f0, .string x20.f1]) (by kernel_rfl) (by kernel_rfl) (CC.refl (fma ⟨fun q hq => (mal hq), nim⟩)) (fun I' L' T hC kk => gl_loadOA (T' := 50) (xp := (.tmp 43)) (p := p22) (cs := [.string x20.f0, .string x20.f1]) (by kernel_rfl) (by kernel_rfl) (by kernel_rfl) (by kernel_rfl) ((hA25 _ _ (fun q hq => hC.sub _ (mal hq))).take 2) kk) ?_
    refine dp 2 [0, 1, 4, 10, 11, 12, 40, 44, 45, 46] [(0, .slice A0 a0.length c0), (1, .int .i64 a1), (4, .func (.func 116) #[] #[]), (10, .int .i64 s8.1), (11, .int .i64 s8.2), (12, .int .i64 (IntKind.wrap .i64 (shr .u64 (IntKind.wrap .u64 (IntKind.wrap .i64 (s8.1 + s8.2))) 1))), (40, .func (.func 116) #[] #[]), (44, .agg #[.string x20.f0, .string x20.f1]), (45, .slice A0 a0.length c0), (46, .int .i64 a1)] [(7, true), (8, true)] (CC.refl (fma ⟨fun q hq => (mal hq), nim⟩)) ?_
    obtain ⟨x29, hx30, hb10⟩ := bind_some hb10
    obtain ⟨p31, cs32, hR33, hA34, ha35, hg37⟩ := OwnS.ixAtG hx30 (hO0.mono hI11)
    have hi36 := ix_some hx30
    obtain rfl := kS49_open hR33
    refine gd_q (v := .pointer (some p31)) (by kernel_rfl) (by kernel_rfl) (CC.refl (fma ⟨fun q hq => (mal hq), nim⟩)) (fun I' L' T hC kk => gl_indexAddrF (c := c0) (T' := 22) (e := 50) (xs := (.tmp 45)) (xi := (.tmp 46)) (kd := .i64) ha35 hi36.1 hi36.2.1 (by kernel_rfl) (by kernel_rfl) (by kernel_rfl) (by kernel_rfl) (by kernel_rfl) kk) ?_
    refine gd_q (v := .agg #[.string x29.f0, .string x29.f1]) (by kernel_rfl) (by kernel_rfl) (CC.refl (fma ⟨fun q hq => (mal hq), nim⟩)) (fun I' L' T hC kk => gl_loadOA (T' := 50) (xp := (.tmp 47)) (p := p31) (cs := [.string x29.f0, .string x29.f1]) (by kernel_rfl) (by kernel_rfl) (by kernel_rfl) (by kernel_rfl) ((hA34 _ _ (fun q hq => hC.sub _ (mal hq))).take 2) kk) ?_
    refine gd_done ?_
    refine gl_callQ (by kernel_rfl) (labels_sorted_1_walk (r := (labels_sorted_1 x20 x29))  rfl _) ?_
    refine qp 1 [0, 1, 4, 10, 11, 12, 50] [(0, .slice A0 a0.length c0), (1, .int .i64 a1), (4, .func (.func 116) #[] #[]), (10, .int .i64 s8.1), (11, .int .i64 s8.2), (12, .int .i64 (IntKind.wrap .i64 (shr .u64 (IntKind.wrap .u64 (IntKind.wrap .i64 (s8.1 + s8.2))) 1))), (50, .bool (decide ((labels_sorted_1 x20 x29) < 0)))] (qE (qs ?_))
    obtain ⟨j38, hj39, hb10⟩ := bind_some hb10
    refine gk_join (fun t I' L' => I13 ≤ I' ∧ C0 ++ L = L' ∧ Knows 220 [(0, .slice A0 a0.length c0), (1, .int .i64 a1), (4, .func (.func 116) #[] #[]), (10, .int .i64 j38.1), (11, .int .i64 j38.2)] t) ?_ ?_
    ·refine gk_cond (b := (decide ((labels_sorted_1 x20 x29) < 0))) (by kernel_rfl) (by kernel_rfl) (fun hc43 => ?_) (fun hc43 => ?_)
     ·have hj39 := cond_t hc43 hj39
      refine qR (qp 3 [0, 1, 4, 10, 11] [(0, .slice A0 a0.length c0), (1, .int .i64 a1), (4, .func (.func 116) #[] #[]), (10, .int .i64 (IntKind.wrap .i64 ((IntKind.wrap .i64 (shr .u64 (IntKind.wrap .u64 (IntKind.wrap .i64 (s8.1 + s8.2))) 1)) + 1))), (11, .int .i64 s8.2)] (qE ?_))
      obtain rfl := some_inj hj39
      exact ge_mid fun t ht => ⟨(Imm.refl _), rfl, ht.pick (l := [0, 1, 4, 10, 11]) (by kernel_rfl)⟩
     ·have hj39 := cond_f hc43 hj39
      refine qR (qp 2 [0, 1, 4, 10, 11] [(0, .slice A0 a0.length c0), (1, .int .i64 a1), (4, .func (.func 116) #[] #[]), (10, .int .i64 s8.1), (11, .int .i64 (IntKind.wrap .i64 (shr .u64 (IntKind.wrap .u64 (IntKind.wrap .i64 (s8.1 + s8.2))) 1)))] (qE ?_))
      obtain rfl := some_inj hj39
      exact ge_mid fun t ht => ⟨(Imm.refl _), rfl, ht.pick (l := [0, 1, 4, 10, 11]) (by kernel_rfl)⟩
    ·rintro t I42 L' ⟨hI40, rfl, hK41⟩
     refine ge_at hK41 ?_
     refine qn ?_
     obtain rfl := some_inj hb10
     exact ge_round fun t ht => ⟨(Imm.trans hI11 hI40), rfl, ht.pick (l := [0, 1, 4, 10, 11]) (by kernel_rfl)⟩
   ·have hb10 := cond_f hc19 hb10
    refine qe (qf ?_)
    obtain rfl := some_inj hb10
    refine ge_round_out (fun hrr => ?_) (by intro h; cases h)
    obtain rfl := hrr
    refine qh ?_
    exact ge_mid fun t ht => ⟨hI11, rfl, ht.pick (l := [0, 1, 10]) (by kernel_rfl)⟩
  ·rintro t I16 L' ⟨hI14, rfl, hK15⟩
   refine ge_at hK15 ?_
   refine qs (qk (qk (qR (qp 2 [0, 10, 13] [(0, .slice A0 a0.length c0), (10, .int .i64 r6), (13, .int .i64 a1)] (qE (qs ?_))))))
   obtain ⟨r51, hl52, hr⟩ := bind_some hr
   refine gk_join (fun t I' L' => ∃ C63, OwnS kS49 50 I' A0 c0 r51 C63 ∧ (r51.length = a0.length) ∧ I16 ≤ I' ∧ C63 ++ L = L' ∧ Knows 220 [(0, .slice A0 r51.length c0)] t) ?_ ?_
   ·refine qb (qq [0, 10, 13] [(0, .slice A0 a0.length c0), (10, .int .i64 r6), (13, .int .i64 a1)] ?_)
    intro t hK
    refine gc_loop (slices_symMergeCmpFunc_l68 r6) (fun s53 t I' L' => ∃ C57, OwnS kS49 50 I' A0 c0 s53.1 C57 ∧ (s53.1.length = a0.length) ∧ I16 ≤ I' ∧ C57 ++ L = L' ∧ Knows 220 [(0, .slice A0 s53.1.length c0), (10, .int .i64 r6), (13, .int .i64 s53.2)] t) (by kernel_rfl) ?_ hl52 ⟨C0, (hO0.mono hI14), rfl, (Imm.refl _), rfl, hK⟩
    rintro s53 o54 t I61 L' hb55 ⟨C57, hO58, hL59, hI56, rfl, hK60⟩
    unfold slices_symMergeCmpFunc_l68 at hb55
    refine gk_at hK60 ?_
    refine qk (qk (qR (qp 4 [0, 10, 13, 58] [(0, .slice A0 s53.1.length c0), (10, .int .i64 r6), (13, .int .i64 s53.2), (58, .bool (decide (s53.2 < (IntKind.wrap .i64 (r6 - 1)))))] (qE (qs ?_)))))
    refine gk_cond (b := (decide (s53.2 < (IntKind.wrap .i64 (r6 - 1))))) (by kernel_rfl) (by kernel_rfl) (fun hc70 => ?_) (fun hc70 => ?_)
    ·have hb55 := cond_t hc70 hb55
     refine qx (qs (qk (qb ?_)))
     refine gk_drawS 17 [(0, true), (1, true), (2, true), (3, true), (4, true), (5, true), (6, true), (7, true), (8, true), (9, true), (10, true), (11, true), (12, true), (13, true), (14, false), (15, false), (16, false)] [9, 13] [] (C57 ++ []) (fma ⟨fun q hq => (mal hq), nim⟩) (fun p hp => List.mem_append_right _ ((fun p hp => hp) p hp)) (by kernel_rfl) (by kernel_rfl) (by kernel_rfl) ?_ (by kernel_rfl)
     refine dp 8 [0, 10, 13, 61, 62, 63, 65, 66, 68] [(0, .slice A0 s53.1.length c0), (10, .int .i64 r6), (13, .int .i64 s53.2), (61, .slice A0 s53.1.length c0), (62, .int .i64 s53.2), (63, .slice A0 s53.1.length c0), (65, .int .i64 (IntKind.wrap .i64 (s53.2 + 1))), (66, .slice A0 s53.1.length c0), (68, .int .i64 (IntKind.wrap .i64 (s53.2 + 1)))] [(8, true), (9, true), (10, true), (11, true), (12, true), (13, true), (14, false), (15, false), (16, false)] (CC.refl (fma ⟨fun q hq => (mal hq), nim⟩)) ?_
     obtain ⟨x71, hx72, hb55⟩ := bind_some hb55
     obtain ⟨p73, cs74, hR75, hA76, ha77, hg79⟩ := OwnS.ixAtG hx72 hO58
     have hi78 := ix_some hx72
     obtain rfl := kS49_open hR75
     refine gd_q (v := .pointer (some p73)) (by kernel_rfl) (by kernel_rfl) (CC.refl (fma ⟨fun q hq => (mal hq), nim⟩)) (fun I' L' T hC kk => gl_indexAddrF (c := c0) (T' := 22) (e := 50) (xs := (.tmp 66)) (xi := (.tmp 68)) (kd := .i64) ha77 hi78.1 hi78.2.1 (by kernel_rfl) (by kernel_rfl) (by kernel_rfl) (by kernel_rfl) (by kernel_rfl) kk) ?_
     refine gd_q (v := .agg #[.string x71.f0, .string x71.f1]) (by kernel_rfl) (by kernel_rfl) (CC.refl (fma ⟨fun q hq => (mal hq), nim⟩)) (fun I' L' T hC kk => gl_loadOA (T' := 50) (xp := (.tmp 69)) (p := p73) (cs := [.string x71.f0, .string x71.f1]) (by kernel_rfl) (by kernel_rfl) (by kernel_rfl) (by kernel_rfl) ((hA76 _ _ (fun q hq => hC.sub _ (mal hq))).take 2) kk) ?_
     refine dp 2 [0, 10, 13, 61, 62, 63, 65, 70, 71, 72] [(0, .slice A0 s53.1.length c0), (10, .int .i64 r6), (13, .int .i64 s53.2), (61, .slice A0 s53.1.length c0), (62, .int .i64 s53.2), (63, .slice A0 s53.1.length c0), (65, .int .i64 (IntKind.wrap .i64 (s53.2 + 1))), (70, .agg #[.string x71.f0, .string x71.f1]), (71, .slice A0 s53.1.length c0), (72, .int .i64 s53.2)] [(12, true), (13, true), (14, false), (15, false), (16, false)] (CC.refl (fma ⟨fun q hq => (mal hq), nim⟩)) ?_
     obtain ⟨x80, hx81, hb55⟩ := bind_some hb55
     obtain ⟨p82, cs83, hR84, hA85, ha86, hg88⟩ := OwnS.ixAtG hx81 hO58
     have hi87 := ix_some hx81
     obtain rfl := kS49_open hR84
     refine gd_q (v := .pointer (some p82)) (by kernel_rfl) (by kernel_rfl) (CC.refl (fma ⟨fun q hq => (mal hq), nim⟩)) (fun I' L' T hC kk => gl_indexAddrF (c := c0) (T' := 22) (e := 50) (xs := (.tmp 71)) (xi := (.tmp 72)) (kd := .i64) ha86 hi87.1 hi87.2.1 (by kernel_rfl) (by kernel_rfl) (by kernel_rfl) (by kernel_rfl) (by kernel_rfl) kk) ?_
     refine gd_q (v := .agg #[.string x80.f0, .string x80.f1]) (by kernel_rfl) (by kernel_rfl) (CC.refl (fma ⟨fun q hq => (mal hq), nim⟩)) (fun I' L' T hC kk => gl_loadOA (T' := 50) (xp := (.tmp 73)) (p := p82) (cs := [.string x80.f0, .string x80.f1]) (by kernel_rfl) (by kernel_rfl) (by kernel_rfl) (by kernel_rfl) ((hA85 _ _ (fun q hq => hC.sub _ (mal hq))).take 2) kk) ?_
     refine gd_one (by kernel_rfl) ?_
     obtain ⟨x89, hx90, hb55⟩ := bind_some hb55
     refine gl_indexAddrW (d := kS49) (c := c0) (T' := 22) (e := 50) (xs := (.tmp 61)) (xi := (.tmp 62)) (kd := .i64) hx90 hO58 (Upd.selfC _ _) (by kernel_rfl) (by kernel_rfl) (by kernel_rfl) (by kernel_rfl) (by kernel_rfl) (fun p91 cs92 hR93 hA94 hp97 => ?_)
     obtain rfl := kS49_open hR93
     refine gl_toD (by kernel_rfl) ⟨(Imm.refl _), (fma ⟨fun q hq => (mal hq), nim⟩)⟩ ?_
     refine gd_flip (by kernel_rfl) (by kernel_rfl) ?_
     have hl100 : s53.1.length = (lset s53.1 s53.2 x71).length := by simp [lset]
     refine gl_storeE (d := kS49) (T' := 50) (xp := (.tmp 75)) (xv := (.tmp 70)) (v := .agg #[.string x71.f0, .string x71.f1]) (off := 0) (y := x71) (fun X => X ++ L) hx90 hO58 (fun X => (Upd.head _ X _)) hp97 (by kernel_rfl) (by kernel_rfl) (by kernel_rfl) (by kernel_rfl) (by kernel_rfl) (by kernel_rfl) (fun cs h => by obtain rfl := kS49_open h; exact kS49_mk (x := x71) ) (by kernel_rfl) (fun C98 hO99 => ?_)
     try rw [hl100]
     refine gl_toD (by kernel_rfl) ⟨(Imm.refl _), nim⟩ ?_
     refine gd_one (by kernel_rfl) ?_
     obtain ⟨x101, hx102, hb55⟩ := bind_some hb55
     refine gl_indexAddrW (d := kS49) (c := c0) (T' := 22) (e := 50) (xs := (.tmp 63)) (xi := (.tmp 65)) (kd := .i64) hx102 hO99 (Upd.selfC _ _) (by kernel_rfl) (by kernel_rfl) (by kernel_rfl) (by kernel_rfl) (by kernel_rfl) (fun p103 cs104 hR105 hA106 hp109 => ?_)
     obtain rfl := kS49_open hR105
     refine gl_toD (by kernel_rfl) ⟨(Imm.refl _), nim⟩ ?_
     refine gd_done ?_
     have hl112 : (lset s53.1 s53.2 x71).length = (lset (lset s53.1 s53.2 x71) (IntKind.wrap .i64 (s53.2 + 1)) x80).length := by simp [lset]
     refine gl_storeE (d := kS49) (T' := 50) (xp := (.tmp 76)) (xv := (.tmp 74)) (v := .agg #[.string x80.f0, .string x80.f1]) (off := 0) (y := x80) (fun X => X ++ L) hx102 hO99 (fun X => (Upd.head _ X _)) hp109 (by kernel_rfl) (by kernel_rfl) (by kernel_rfl) (by kernel_rfl) (by kernel_rfl) (by kernel_rfl) (fun cs h => by obtain rfl := kS49_open h; exact kS49_mk (x := x80) ) (by kernel_rfl) (fun C110 hO111 => ?_)
     try rw [hl112]
     refine qE (qn (qs (qR (qp 3 [0, 10, 13] [(0, .slice A0 (lset (lset s53.1 s53.2 x71) (IntKind.wrap .i64 (s53.2 + 1)) x80).length c0), (10, .int .i64 r6), (13, .int .i64 (IntKind.wrap .i64 (s53.2 + 1)))] (qE ?_)))))
     obtain rfl := some_inj hb55
     exact ge_round fun t ht => ⟨C110, hO111, (Eq.trans (lset_length _ _ _) (Eq.trans (lset_length _ _ _) hL59)), hI56, rfl, ht.pick (l := [0, 10, 13]) (by kernel_rfl)⟩
    ·have hb55 := cond_f hc70 hb55
     refine qe (qf ?_)
     obtain rfl := some_inj hb55
     refine ge_round_out (fun hrr => ?_) (by intro h; cases h)
     obtain rfl := hrr
     refine qh ?_
     exact ge_mid fun t ht => ⟨C57, hO58, hL59, hI56, rfl, ht.pick (l := [0]) (by kernel_rfl)⟩
   ·rintro t I67 L' ⟨C63, hO64, hL65, hI62, rfl, hK66⟩
    refine ge_at hK66 ?_
    refine qs (qt (qu ?_))
    obtain rfl := some_inj hr
    exact ge_result trivial ResOk.nil (Imm.trans hI14 hI62) ⟨C63, hO64, hL65, rfl, rfl⟩
 ·have hr := cond_f hc1 hr
  refine qx (qs (qk (qk (qR (qp 4 [0, 1, 2, 3, 4, 80] [(0, .slice A0 a0.length c0), (1, .int .i64 a1), (2, .int .i64 a2), (3, .int .i64 a3), (4, .func (.func 116) #[] #[]), (80, .bool ((IntKind.wrap .i64 (a3 - a2)) == 1))] (qE (qs ?_)))))))
  refine gk_cond (b := ((IntKind.wrap .i64 (a3 - a2)) == 1)) (by kernel_rfl) (by kernel_rfl) (fun hc113 => ?_) (fun hc113 => ?_)
  ·have hr := cond_t hc113 hr
   refine qk (qR (qp 2 [0, 2, 4, 14] [(0, .slice A0 a0.length c0), (2, .int .i64 a2), (4, .func (.func 116) #[] #[]), (14, .int .i64 a1)] (qE (qs (qk (qR (qp 2 [0, 2, 4, 14, 15] [(0, .slice A0 a0.length c0), (2, .int .i64 a2), (4, .func (.func 116) #[] #[]), (14, .int .i64 a1), (15, .int .i64 a2)] (qE (qs (qk ?_))))))))))
   obtain ⟨r118, hl119, hr⟩ := bind_some hr
   refine gk_join (fun t I' L' => I ≤ I' ∧ C0 ++ L = L' ∧ Knows 220 [(0, .slice A0 a0.length c0), (2, .int .i64 a2), (14, .int .i64 r118)] t) ?_ ?_
   ·refine qb (qq [0, 2, 4, 14, 15] [(0, .slice A0 a0.length c0), (2, .int .i64 a2), (4, .func (.func 116) #[] #[]), (14, .int .i64 a1), (15, .int .i64 a2)] ?_)
    intro t hK
    refine gc_loop (slices_symMergeCmpFunc_l129 a0 a2) (fun s120 t I' L' => I ≤ I' ∧ C0 ++ L = L' ∧ Knows 220 [(0, .slice A0 a0.length c0), (2, .int .i64 a2), (4, .func (.func 116) #[] #[]), (14, .int .i64 s120.1), (15, .int .i64 s120.2)] t) (by kernel_rfl) ?_ hl119 ⟨(Imm.refl _), rfl, hK⟩
    rintro s120 o121 t I125 L' hb122 ⟨hI123, rfl, hK124⟩
    unfold slices_symMergeCmpFunc_l129 at hb122
    refine gk_at hK124 ?_
    refine qk (qk (qR (qp 3 [0, 2, 4, 14, 15, 85] [(0, .slice A0 a0.length c0), (2, .int .i64 a2), (4, .func (.func 116) #[] #[]), (14, .int .i64 s120.1), (15, .int .i64 s120.2), (85, .bool (decide (s120.1 < s120.2)))] (qE (qs ?_)))))
    refine gk_cond (b := (decide (s120.1 < s120.2))) (by kernel_rfl) (by kernel_rfl) (fun hc131 => ?_) (fun hc131 => ?_)
    ·have hb122 := cond_t hc131 hb122
     refine qx (qs (qb (qk (qR (qp 7 [0, 2, 4, 14, 15, 16] [(0, .slice A0 a0.length c0), (2, .int .i64 a2), (4, .func (.func 116) #[] #[]), (14, .int .i64 s120.1), (15, .int .i64 s120.2), (16, .int .i64 (IntKind.wrap .i64 (shr .u64 (IntKind.wrap .u64 (IntKind.wrap .i64 (s120.1 + s120.2))) 1)))] (qE (qs (qk ?_))))))))
     refine gk_draw 9 (rng 0 9) (C0 ++ []) (fma ⟨fun q hq => (mal hq), nim⟩) (by kernel_rfl) (by kernel_rfl) (by kernel_rfl) ?_ (by kernel_rfl)
     refine dp 3 [0, 2, 4, 14, 15, 16, 92, 93, 94] [(0, .slice A0 a0.length c0), (2, .int .i64 a2), (4, .func (.func 116) #[] #[]), (14, .int .i64 s120.1), (15, .int .i64 s120.2), (16, .int .i64 (IntKind.wrap .i64 (shr .u64 (IntKind.wrap .u64 (IntKind.wrap .i64 (s120.1 + s120.2))) 1))), (92, .func (.func 116) #[] #[]), (93, .slice A0 a0.length c0), (94, .int .i64 a2)] (rng 3 6) (CC.refl (fma ⟨fun q hq => (mal hq), nim⟩)) ?_
     obtain ⟨x132, hx133, hb122⟩ := bind_some hb122
     obtain ⟨p134, cs135, hR136, hA137, ha138, hg140⟩ := OwnS.ixAtG hx133 (hO0.mono hI123)
     have hi139 := ix_some hx133
     obtain rfl := kS49_open hR136
     refine gd_q (v := .pointer (some p134)) (by kernel_rfl) (by kernel_rfl) (CC.refl (fma ⟨fun q hq => (mal hq), nim⟩)) (fun I' L' T hC kk => gl_indexAddrF (c := c0) (T' := 22) (e := 50) (xs := (.tmp 93)) (xi := (.tmp 94)) (kd := .i64) ha138 hi139.1 hi139.2.1 (by kernel_rfl) (by kernel_rfl) (by kernel_rfl) (by kernel_rfl) (by kernel_rfl) kk) ?_
     refine gd_q (v := .agg #[.string x132.f0, .string x132.f1]) (by kernel_rfl) (by kernel_rfl) (CC.refl (fma ⟨fun q hq => (mal hq), nim⟩)) (fun I' L' T hC kk => gl_loadOA (T' := 50) (xp := (.tmp 95)) (p := p134) (cs := [.string x132.f0, .string x132.f1]) (by kernel_rfl) (by kernel_rfl) (by kernel_rfl) (by kernel_rfl) ((hA137 _ _ (fun q hq => hC.sub _ (mal hq))).take 2) kk) ?_
     refine dp 2 [0, 2, 4, 14, 15, 16, 92, 96, 97, 98] [(0, .slice A0 a0.length c0), (2, .int .i64 a2), (4, .func (.func 116) #[] #[]), (14, .int .i64 s120.1), (15, .int .i64 s120.2), (16, .int .i64 (IntKind.wrap .i64 (shr .u64 (IntKind.wrap .u64 (IntKind.wrap .i64 (s120.1 + s120.2))) 1))), (92, .func (.func 116) #[] #[]), (96, .agg #[.string x132.f0, .string x132.f1]), (97, .slice A0 a0.length c0), (98, .int .i64 (IntKind.wrap .i64 (shr .u64 (IntKind.wrap .u64 (IntKind.wrap .i64 (s120.1 + s120.2))) 1)))] [(7, true), (8, true)] (CC.refl (fma ⟨fun q hq => (mal hq), nim⟩)) ?_
     obtain ⟨x141, hx142, hb122⟩ := bind_some hb122
     obtain ⟨p143, cs144, hR145, hA146, ha147, hg149⟩ := OwnS.ixAtG hx142 (hO0.mono hI123)
     have hi148 := ix_some hx142
     obtain rfl := kS49_open hR145
     refine gd_q (v := .pointer (some p143)) (by kernel_rfl) (by kernel_rfl) (CC.refl (fma ⟨fun q hq => (mal hq), nim⟩)) (fun I' L' T hC kk => gl_indexAddrF (c := c0) (T' := 22) (e := 50) (xs := (.tmp 97)) (xi := (.tmp 98)) (kd := .i64) ha147 hi148.1 hi148.2.1 (by kernel_rfl) (by kernel_rfl) (by kernel_rfl) (by kernel_rfl) (by kernel_rfl) kk) ?_
     refine gd_q (v := .agg #[.string x141.f0, .string x141.f1]) (by kernel_rfl) (by kernel_rfl) (CC.refl (fma ⟨fun q hq => (mal hq), nim⟩)) (fun I' L' T hC kk => gl_loadOA (T' := 50) (xp := (.tmp 99)) (p := p143) (cs := [.string x141.f0, .string x141.f1]) (by kernel_rfl) (by kernel_rfl) (by kernel_rfl) (by kernel_rfl) ((hA146 _ _ (fun q hq => hC.sub _ (mal hq))).take 2) kk) ?_
     refine gd_done ?_
     refine gl_callQ (by kernel_rfl) (labels_sorted_1_walk (r := (labels_sorted_1 x132 x141))  rfl _) ?_
     refine qp 2 [0, 2, 4, 14, 15, 16, 103] [(0, .slice A0 a0.length c0), (2, .int .i64 a2), (4, .func (.func 116) #[] #[]), (14, .int .i64 s120.1), (15, .int .i64 s120.2), (16, .int .i64 (IntKind.wrap .i64 (shr .u64 (IntKind.wrap .u64 (IntKind.wrap .i64 (s120.1 + s120.2))) 1))), (103, .bool (!(decide ((labels_sorted_1 x132 x141) < 0))))] (qE (qs ?_))
     obtain ⟨j150, hj151, hb122⟩ := bind_some hb122
     refine gk_join (fun t I' L' => I125 ≤ I' ∧ C0 ++ L = L' ∧ Knows 220 [(0, .slice A0 a0.length c0), (2, .int .i64 a2), (4, .func (.func 116) #[] #[]), (14, .int .i64 j150.1), (15, .int .i64 j150.2)] t) ?_ ?_
     ·refine gk_cond (b := (!(decide ((labels_sorted_1 x132 x141) < 0)))) (by kernel_rfl) (by kernel_rfl) (fun hc155 => ?_) (fun hc155 => ?_)
      ·have hj151 := cond_t hc155 hj151
       refine qR (qp 3 [0, 2, 4, 14, 15] [(0, .slice A0 a0.length c0), (2, .int .i64 a2), (4, .func (.func 116) #[] #[]), (14, .int .i64 (IntKind.wrap .i64 ((IntKind.wrap .i64 (shr .u64 (IntKind.wrap .u64 (IntKind.wrap .i64 (s120.1 + s120.2))) 1)) + 1))), (15, .int .i64 s120.2)] (qE ?_))
       obtain rfl := some_inj hj151
       exact ge_mid fun t ht => ⟨(Imm.refl _), rfl, ht.pick (l := [0, 2, 4, 14, 15]) (by kernel_rfl)⟩
      ·have hj151 := cond_f hc155 hj151
       refine qR (qp 2 [0, 2, 4, 14, 15] [(0, .slice A0 a0.length c0), (2, .int .i64 a2), (4, .func (.func 116) #[] #[]), (14, .int .i64 s120.1), (15, .int .i64 (IntKind.wrap .i64 (shr .u64 (IntKind.wrap .u64 (IntKind.wrap .i64 (s120.1 + s120.2))) 1)))] (qE ?_))
       obtain rfl := some_inj hj151
       exact ge_mid fun t ht => ⟨(Imm.refl _), rfl, ht.pick (l := [0, 2, 4, 14, 15]) (by kernel_rfl)⟩
     ·rintro t I154 L' ⟨hI152, rfl, hK153⟩
      refine ge_at hK153 ?_
      refine qn ?_
      obtain rfl := some_inj hb122
      exact ge_round fun t ht => ⟨(Imm.trans hI123 hI152), rfl, ht.pick (l := [0, 2, 4, 14, 15]) (by kernel_rfl)⟩
    ·have hb122 := cond_f hc131 hb122
     refine qe (qf ?_)
     obtain rfl := some_inj hb122
     refine ge_round_out (fun hrr => ?_) (by intro h; cases h)
     obtain rfl := hrr
     refine qh ?_
     exact ge_mid fun t ht => ⟨hI123, rfl, ht.pick (l := [0, 2, 14]) (by kernel_rfl)⟩
   ·rintro t I128 L' ⟨hI126, rfl, hK127⟩
    refine ge_at hK127 ?_
    refine qs (qk (qk (qR (qp 2 [0, 14, 17] [(0, .slice A0 a0.length c0), (14, .int .i64 r118), (17, .int .i64 a2)] (qE (qs ?_))))))
    obtain ⟨r163, hl164, hr⟩ := bind_some hr
    refine gk_join (fun t I' L' => ∃ C175, OwnS kS49 50 I' A0 c0 r163 C175 ∧ (r163.length = a0.length) ∧ I128 ≤ I' ∧ C175 ++ L = L' ∧ Knows 220 [(0, .slice A0 r163.length c0)] t) ?_ ?_
    ·refine qb (qq [0, 14, 17] [(0, .slice A0 a0.length c0), (14, .int .i64 r118), (17, .int .i64 a2)] ?_)
     intro t hK
     refine gc_loop (slices_symMergeCmpFunc_l180 r118) (fun s165 t I' L' => ∃ C169, OwnS kS49 50 I' A0 c0 s165.1 C169 ∧ (s165.1.length = a0.length) ∧ I128 ≤ I' ∧ C169 ++ L = L' ∧ Knows 220 [(0, .slice A0 s165.1.length c0), (14, .int .i64 r118), (17, .int .i64 s165.2)] t) (by kernel_rfl) ?_ hl164 ⟨C0, (hO0.mono hI126), rfl, (Imm.refl _), rfl, hK⟩
     rintro s165 o166 t I173 L' hb167 ⟨C169, hO170, hL171, hI168, rfl, hK172⟩
     unfold slices_symMergeCmpFunc_l180 at hb167
     refine gk_at hK172 ?_
     refine qk (qk (qR (qp 3 [0, 14, 17, 110] [(0, .slice A0 s165.1.length c0), (14, .int .i64 r118), (17, .int .i64 s165.2), (110, .bool (decide (s165.2 > r118)))] (qE (qs ?_)))))
     refine gk_cond (b := (decide (s165.2 > r118))) (by kernel_rfl) (by kernel_rfl) (fun hc182 => ?_) (fun hc182 => ?_)
     ·have hb167 := cond_t hc182 hb167
      refine qx (qs (qk (qb ?_)))
      refine gk_drawS 17 [(0, true), (1, true), (2, true), (3, true), (4, true), (5, true), (6, true), (7, true), (8, true), (9, true), (10, true), (11, true), (12, true), (13, true), (14, false), (15, false), (16, false)] [9, 13] [] (C169 ++ []) (fma ⟨fun q hq => (mal hq), nim⟩) (fun p hp => List.mem_append_right _ ((fun p hp => hp) p hp)) (by kernel_rfl) (by kernel_rfl) (by kernel_rfl) ?_ (by kernel_rfl)
      refine dp 8 [0, 14, 17, 113, 114, 115, 117, 118, 120] [(0, .slice A0 s165.1.length c0), (14, .int .i64 r118), (17, .int .i64 s165.2), (113, .slice A0 s165.1.length c0), (114, .int .i64 s165.2), (115, .slice A0 s165.1.length c0), (117, .int .i64 (IntKind.wrap .i64 (s165.2 - 1))), (118, .slice A0 s165.1.length c0), (120, .int .i64 (IntKind.wrap .i64 (s165.2 - 1)))] [(8, true), (9, true), (10, true), (11, true), (12, true), (13, true), (14, false), (15, false), (16, false)] (CC.refl (fma ⟨fun q hq => (mal hq), nim⟩)) ?_
      obtain ⟨x183, hx184, hb167⟩ := bind_some hb167
      obtain ⟨p185, cs186, hR187, hA188, ha189, hg191⟩ := OwnS.ixAtG hx184 hO170
      have hi190 := ix_some hx184
      obtain rfl := kS49_open hR187
      refine gd_q (v := .pointer (some p185)) (by kernel_rfl) (by kernel_rfl) (CC.refl (fma ⟨fun q hq => (mal hq), nim⟩)) (fun I' L' T hC kk => gl_indexAddrF (c := c0) (T' := 22) (e := 50) (xs := (.tmp 118)) (xi := (.tmp 120)) (kd := .i64) ha189 hi190.1 hi190.2.1 (by kernel_rfl) (by kernel_rfl) (by kernel_rfl) (by kernel_rfl) (by kernel_rfl) kk) ?_
      refine gd_q (v := .agg #[.string x183.f0, .string x183.f1]) (by kernel_rfl) (by kernel_rfl) (CC.refl (fma ⟨fun q hq => (mal hq), nim⟩)) (fun I' L' T hC kk => gl_loadOA (T' := 50) (xp := (.tmp 121)) (p := p185) (cs := [.string x183.f0, .string x183.f1]) (by kernel_rfl) (by kernel_rfl) (by kernel_rfl) (by kernel_rfl) ((hA188 _ _ (fun q hq => hC.sub _ (mal hq))).take 2) kk) ?_
      refine dp 2 [0, 14, 17, 113, 114, 115, 117, 122, 123, 124] [(0, .slice A0 s165.1.length c0), (14, .int .i64 r118), (17, .int .i64 s165.2), (113, .slice A0 s165.1.length c0), (114, .int .i64 s165.2), (115, .slice A0 s165.1.length c0), (117, .int .i64 (IntKind.wrap .i64 (s165.2 - 1))), (122, .agg #[.string x183.f0, .string x183.f1]), (123, .slice A0 s165.1.length c0), (124, .int .i64 s165.2)] [(12, true), (13, true), (14, false), (15, false), (16, false)] (CC.refl (fma ⟨fun q hq => (mal hq), nim⟩)) ?_
      obtain ⟨x192, hx193, hb167⟩ := bind_some hb167
      obtain ⟨p194, cs195, hR196, hA197, ha198, hg200⟩ := OwnS.ixAtG hx193 hO170
      have hi199 := ix_some hx193
      obtain rfl := kS49_open hR196
      refine gd_q (v := .pointer (some p194)) (by kernel_rfl) (by kernel_rfl) (CC.refl (fma ⟨fun q hq => (mal hq), nim⟩)) (fun I' L' T hC kk => gl_indexAddrF (c := c0) (T' := 22) (e := 50) (xs := (.tmp 123)) (xi := (.tmp 124)) (kd := .i64) ha198 hi199.1 hi199.2.1 (by kernel_rfl) (by kernel_rfl) (by kernel_rfl) (by kernel_rfl) (by kernel_rfl) kk) ?_
      refine gd_q (v := .agg #[.string x192.f0, .string x192.f1]) (by kernel_rfl) (by kernel_rfl) (CC.refl (fma ⟨fun q hq => (mal hq), nim⟩)) (fun I' L' T hC kk => gl_loadOA (T' := 50) (xp := (.tmp 125)) (p := p194) (cs := [.string x192.f0, .string x192.f1]) (by kernel_rfl) (by kernel_rfl) (by kernel_rfl) (by kernel_rfl) ((hA197 _ _ (fun q hq => hC.sub _ (mal hq))).take 2) kk) ?_
      refine gd_one (by kernel_rfl) ?_
      obtain ⟨x201, hx202, hb167⟩ := bind_some hb167
      refine gl_indexAddrW (d := kS49) (c := c0) (T' := 22) (e := 50) (xs := (.tmp 113)) (xi := (.tmp 114)) (kd := .i64) hx202 hO170 (Upd.selfC _ _) (by kernel_rfl) (by kernel_rfl) (by kernel_rfl) (by kernel_rfl) (by kernel_rfl) (fun p203 cs204 hR205 hA206 hp209 => ?_)
      obtain rfl := kS49_open hR205
      refine gl_toD (by kernel_rfl) ⟨(Imm.refl _), (fma ⟨fun q hq => (mal hq), nim⟩)⟩ ?_
      refine gd_flip (by kernel_rfl) (by kernel_rfl) ?_
      have hl212 : s165.1.length = (lset s165.1 s165.2 x183).length := by simp [lset]
      refine gl_storeE (d := kS49) (T' := 50) (xp := (.tmp 127)) (xv := (.tmp 122)) (v := .agg #[.string x183.f0, .string x183.f1]) (off := 0) (y := x183) (fun X => X ++ L) hx202 hO170 (fun X => (Upd.head _ X _)) hp209 (by kernel_rfl) (by kernel_rfl) (by kernel_rfl) (by kernel_rfl) (by kernel_rfl) (by kernel_rfl) (fun cs h => by obtain rfl := kS49_open h; exact kS49_mk (x := x183) ) (by kernel_rfl) (fun C210 hO211 => ?_)
      try rw [hl212]
      refine gl_toD (by kernel_rfl) ⟨(Imm.refl _), nim⟩ ?_
      refine gd_one (by kernel_rfl) ?_
      obtain ⟨x213, hx214, hb167⟩ := bind_some hb167
      refine gl_indexAddrW (d := kS49) (c := c0) (T' := 22) (e := 50) (xs := (.tmp 115)) (xi := (.tmp 117)) (kd := .i64) hx214 hO211 (Upd.selfC _ _) (by kernel_rfl) (by kernel_rfl) (by kernel_rfl) (by kernel_rfl) (by kernel_rfl) (fun p215 cs216 hR217 hA218 hp221 => ?_)
      obtain rfl := kS49_open hR217
      refine gl_toD (by kernel_rfl) ⟨(Imm.refl _), nim⟩ ?_
      refine gd_done ?_
      have hl224 : (lset s165.1 s165.2 x183).length = (lset (lset s165.1 s165.2 x183) (IntKind.wrap .i64 (s165.2 - 1)) x192).length := by simp [lset]
      refine gl_storeE (d := kS49) (T' := 50) (xp := (.tmp 128)) (xv := (.tmp 126)) (v := .agg #[.string x192.f0, .string x192.f1]) (off := 0) (y := x192) (fun X => X ++ L) hx214 hO211 (fun X => (Upd.head _ X _)) hp221 (by kernel_rfl) (by kernel_rfl) (by kernel_rfl) (by kernel_rfl) (by kernel_rfl) (by kernel_rfl) (fun cs h => by obtain rfl := kS49_open h; exact kS49_mk (x := x192) ) (by kernel_rfl) (fun C222 hO223 => ?_)
      try rw [hl224]
      refine qE (qn (qs (qR (qp 3 [0, 14, 17] [(0, .slice A0 (lset (lset s165.1 s165.2 x183) (IntKind.wrap .i64 (s165.2 - 1)) x192).length c0), (14, .int .i64 r118), (17, .int .i64 (IntKind.wrap .i64 (s165.2 - 1)))] (qE ?_)))))
      obtain rfl := some_inj hb167
      exact ge_round fun t ht => ⟨C222, hO223, (Eq.trans (lset_length _ _ _) (Eq.trans (lset_length _ _ _) hL171)), hI168, rfl, ht.pick (l := [0, 14, 17]) (by kernel_rfl)⟩
     ·have hb167 := cond_f hc182 hb167
      refine qe (qf ?_)
      obtain rfl := some_inj hb167
      refine ge_round_out (fun hrr => ?_) (by intro h; cases h)
      obtain rfl := hrr
      refine qh ?_
      exact ge_mid fun t ht => ⟨C169, hO170, hL171, hI168, rfl, ht.pick (l := [0]) (by kernel_rfl)⟩
    ·rintro t I179 L' ⟨C175, hO176, hL177, hI174, rfl, hK178⟩
     refine ge_at hK178 ?_
     refine qs (qt (qu ?_))
     obtain rfl := some_inj hr
     exact ge_result trivial ResOk.nil (Imm.trans hI126 hI174) ⟨C175, hO176, hL177, rfl, rfl⟩
  ·have hr := cond_f hc113 hr
   refine qx (qs (qk (qR (qp 7 [0, 1, 2, 3, 4, 18] [(0, .slice A0 a0.length c0), (1, .int .i64 a1), (2, .int .i64 a2), (3, .int .i64 a3), (4, .func (.func 116) #[] #[]), (18, .int .i64 (IntKind.wrap .i64 (shr .u64 (IntKind.wrap .u64 (IntKind.wrap .i64 (a1 + a3))) 1)))] (qE (qs (qk (qR (qp 4 [0, 1, 2, 3, 4, 18, 19] [(0, .slice A0 a0.length c0), (1, .int .i64 a1), (2, .int .i64 a2), (3, .int .i64 a3), (4, .func (.func 116) #[] #[]), (18, .int .i64 (IntKind.wrap .i64 (shr .u64 (IntKind.wrap .u64 (IntKind.wrap .i64 (a1 + a3))) 1))), (19, .int .i64 (IntKind.wrap .i64 ((IntKind.wrap .i64 (shr .u64 (IntKind.wrap .u64 (IntKind.wrap .i64 (a1 + a3))) 1)) + a2)))] (qE (qs ?_)))))))))))
   refine qk (qR (qp 2 [0, 1, 2, 3, 4, 18, 19] [(0, .slice A0 a0.length c0), (1, .int .i64 a1), (2, .int .i64 a2), (3, .int .i64 a3), (4, .func (.func 116) #[] #[]), (18, .int .i64 (IntKind.wrap .i64 (shr .u64 (IntKind.wrap .u64 (IntKind.wrap .i64 (a1 + a3))) 1))), (19, .int .i64 (IntKind.wrap .i64 ((IntKind.wrap .i64 (shr .u64 (IntKind.wrap .u64 (IntKind.wrap .i64 (a1 + a3))) 1)) + a2)))] (qE (qs (qk (qk (qR (qp 3 [0, 1, 2, 3, 4, 18, 19, 140] [(0, .slice A0 a0.length c0), (1, .int .i64 a1), (2, .int .i64 a2), (3, .int .i64 a3), (4, .func (.func 116) #[] #[]), (18, .int .i64 (IntKind.wrap .i64 (shr .u64 (IntKind.wrap .u64 (IntKind.wrap .i64 (a1 + a3))) 1))), (19, .int .i64 (IntKind.wrap .i64 ((IntKind.wrap .i64 (shr .u64 (IntKind.wrap .u64 (IntKind.wrap .i64 (a1 + a3))) 1)) + a2))), (140, .bool (decide (a2 > (IntKind.wrap .i64 (shr .u64 (IntKind.wrap .u64 (IntKind.wrap .i64 (a1 + a3))) 1)))))] (qE (qs ?_))))))))))
   obtain ⟨j225, hj226, hr⟩ := bind_some hr
   refine gk_join (fun t I' L' => I ≤ I' ∧ C0 ++ L = L' ∧ Knows 220 [(0, .slice A0 a0.length c0), (1, .int .i64 a1), (2, .int .i64 a2), (3, .int .i64 a3), (4, .func (.func 116) #[] #[]), (18, .int .i64 (IntKind.wrap .i64 (shr .u64 (IntKind.wrap .u64 (IntKind.wrap .i64 (a1 + a3))) 1))), (19, .int .i64 (IntKind.wrap .i64 ((IntKind.wrap .i64 (shr .u64 (IntKind.wrap .u64 (IntKind.wrap .i64 (a1 + a3))) 1)) + a2))), (20, .int .i64 j225.1), (21, .int .i64 j225.2)] t) ?_ ?_
   ·refine gk_cond (b := (decide (a2 > (IntKind.wrap .i64 (shr .u64 (IntKind.wrap .u64 (IntKind.wrap .i64 (a1 + a3))) 1))))) (by kernel_rfl) (by kernel_rfl) (fun hc230 => ?_) (fun hc230 => ?_)
    ·have hj226 := cond_t hc230 hj226
     refine qk (qR (qp 4 [0, 1, 2, 3, 4, 18, 19, 20] [(0, .slice A0 a0.length c0), (1, .int .i64 a1), (2, .int .i64 a2), (3, .int .i64 a3), (4, .func (.func 116) #[] #[]), (18, .int .i64 (IntKind.wrap .i64 (shr .u64 (IntKind.wrap .u64 (IntKind.wrap .i64 (a1 + a3))) 1))), (19, .int .i64 (IntKind.wrap .i64 ((IntKind.wrap .i64 (shr .u64 (IntKind.wrap .u64 (IntKind.wrap .i64 (a1 + a3))) 1)) + a2))), (20, .int .i64 (IntKind.wrap .i64 ((IntKind.wrap .i64 ((IntKind.wrap .i64 (shr .u64 (IntKind.wrap .u64 (IntKind.wrap .i64 (a1 + a3))) 1)) + a2)) - a3)))] (qE (qs (qR (qp 2 [0, 1, 2, 3, 4, 18, 19, 20, 21] [(0, .slice A0 a0.length c0), (1, .int .i64 a1), (2, .int .i64 a2), (3, .int .i64 a3), (4, .func (.func 116) #[] #[]), (18, .int .i64 (IntKind.wrap .i64 (shr .u64 (IntKind.wrap .u64 (IntKind.wrap .i64 (a1 + a3))) 1))), (19, .int .i64 (IntKind.wrap .i64 ((IntKind.wrap .i64 (shr .u64 (IntKind.wrap .u64 (IntKind.wrap .i64 (a1 + a3))) 1)) + a2))), (20, .int .i64 (IntKind.wrap .i64 ((IntKind.wrap .i64 ((IntKind.wrap .i64 (shr .u64 (IntKind.wrap .u64 (IntKind.wrap .i64 (a1 + a3))) 1)) + a2)) - a3))), (21, .int .i64 (IntKind.wrap .i64 (shr .u64 (IntKind.wrap .u64 (IntKind.wrap .i64 (a1 + a3))) 1)))] (qE ?_)))))))
     obtain rfl := some_inj hj226
     exact ge_mid fun t ht => ⟨(Imm.refl _), rfl, ht.pick (l := [0, 1, 2, 3, 4, 18, 19, 20, 21]) (by kernel_rfl)⟩
    ·have hj226 := cond_f hc230 hj226
     refine qk (qR (qp 2 [0, 1, 2, 3, 4, 18, 19, 20] [(0, .slice A0 a0.length c0), (1, .int .i64 a1), (2, .int .i64 a2), (3, .int .i64 a3), (4, .func (.func 116) #[] #[]), (18, .int .i64 (IntKind.wrap .i64 (shr .u64 (IntKind.wrap .u64 (IntKind.wrap .i64 (a1 + a3))) 1))), (19, .int .i64 (IntKind.wrap .i64 ((IntKind.wrap .i64 (shr .u64 (IntKind.wrap .u64 (IntKind.wrap .i64 (a1 + a3))) 1)) + a2))), (20, .int .i64 a1)] (qE (qs (qR (qp 2 [0, 1, 2, 3, 4, 18, 19, 20, 21] [(0, .slice A0 a0.length c0), (1, .int .i64 a1), (2, .int .i64 a2), (3, .int .i64 a3), (4, .func (.func 116) #[] #[]), (18, .int .i64 (IntKind.wrap .i64 (shr .u64 (IntKind.wrap .u64 (IntKind.wrap .i64 (a1 + a3))) 1))), (19, .int .i64 (IntKind.wrap .i64 ((IntKind.wrap .i64 (shr .u64 (IntKind.wrap .u64 (IntKind.wrap .i64 (a1 + a3))) 1)) + a2))), (20, .int .i64 a1), (21, .int .i64 a2)] (qE ?_)))))))
     obtain rfl := some_inj hj226
     exact ge_mid fun t ht => ⟨(Imm.refl _), rfl, ht.pick (l := [0, 1, 2, 3, 4, 18, 19, 20, 21]) (by kernel_rfl)⟩
   ·rintro t I229 L' ⟨hI227, rfl, hK228⟩
    refine ge_at hK228 ?_
    refine qs (qk (qR (qp 3 [0, 1, 2, 3, 4, 18, 19, 20, 21, 22] [(0, .slice A0 a0.length c0), (1, .int .i64 a1), (2, .int .i64 a2), (3, .int .i64 a3), (4, .func (.func 116) #[] #[]), (18, .int .i64 (IntKind.wrap .i64 (shr .u64 (IntKind.wrap .u64 (IntKind.wrap .i64 (a1 + a3))) 1))), (19, .int .i64 (IntKind.wrap .i64 ((IntKind.wrap .i64 (shr .u64 (IntKind.wrap .u64 (IntKind.wrap .i64 (a1 + a3))) 1)) + a2))), (20, .int .i64 j225.1), (21, .int .i64 j225.2), (22, .int .i64 (IntKind.wrap .i64 ((IntKind.wrap .i64 ((IntKind.wrap .i64 (shr .u64 (IntKind.wrap .u64 (IntKind.wrap .i64 (a1 + a3))) 1)) + a2)) - 1)))] (qE (qs (qk ?_))))))
    obtain ⟨r235, hl236, hr⟩ := bind_some hr
    refine gk_join (fun t I' L' => I229 ≤ I' ∧ C0 ++ L = L' ∧ Knows 220 [(0, .slice A0 a0.length c0), (1, .int .i64 a1), (2, .int .i64 a2), (3, .int .i64 a3), (4, .func (.func 116) #[] #[]), (18, .int .i64 (IntKind.wrap .i64 (shr .u64 (IntKind.wrap .u64 (IntKind.wrap .i64 (a1 + a3))) 1))), (19, .int .i64 (IntKind.wrap .i64 ((IntKind.wrap .i64 (shr .u64 (IntKind.wrap .u64 (IntKind.wrap .i64 (a1 + a3))) 1)) + a2))), (20, .int .i64 r235)] t) ?_ ?_
    ·refine qb (qq [0, 1, 2, 3, 4, 18, 19, 20, 21, 22] [(0, .slice A0 a0.length c0), (1, .int .i64 a1), (2, .int .i64 a2), (3, .int .i64 a3), (4, .func (.func 116) #[] #[]), (18, .int .i64 (IntKind.wrap .i64 (shr .u64 (IntKind.wrap .u64 (IntKind.wrap .i64 (a1 + a3))) 1))), (19, .int .i64 (IntKind.wrap .i64 ((IntKind.wrap .i64 (shr .u64 (IntKind.wrap .u64 (IntKind.wrap .i64 (a1 + a3))) 1)) + a2))), (20, .int .i64 j225.1), (21, .int .i64 j225.2), (22, .int .i64 (IntKind.wrap .i64 ((IntKind.wrap .i64 ((IntKind.wrap .i64 (shr .u64 (IntKind.wrap .u64 (IntKind.wrap .i64 (a1 + a3))) 1)) + a2)) - 1)))] ?_)
     intro t hK
     refine gc_loop (slices_symMergeCmpFunc_l246 a0 a1 a2 a3) (fun s237 t I' L' => I229 ≤ I' ∧ C0 ++ L = L' ∧ Knows 220 [(0, .slice A0 a0.length c0), (1, .int .i64 a1), (2, .int .i64 a2), (3, .int .i64 a3), (4, .func (.func 116) #[] #[]), (18, .int .i64 (IntKind.wrap .i64 (shr .u64 (IntKind.wrap .u64 (IntKind.wrap .i64 (a1 + a3))) 1))), (19, .int .i64 (IntKind.wrap .i64 ((IntKind.wrap .i64 (shr .u64 (IntKind.wrap .u64 (IntKind.wrap .i64 (a1 + a3))) 1)) + a2))), (20, .int .i64 s237.1), (21, .int .i64 s237.2), (22, .int .i64 (IntKind.wrap .i64 ((IntKind.wrap .i64 ((IntKind.wrap .i64 (shr .u64 (IntKind.wrap .u64 (IntKind.wrap .i64 (a1 + a3))) 1)) + a2)) - 1)))] t) (by kernel_rfl) ?_ hl236 ⟨(Imm.refl _), rfl, hK⟩
     rintro s237 o238 t I242 L' hb239 ⟨hI240, rfl, hK241⟩
     unfold slices_symMergeCmpFunc_l246 at hb239
     refine gk_at hK241 ?_
     refine qk (qk (qR (qp 3 [0, 1, 2, 3, 4, 18, 19, 20, 21, 22, 151] [(0, .slice A0 a0.length c0), (1, .int .i64 a1), (2, .int .i64 a2), (3, .int .i64 a3), (4, .func (.func 116) #[] #[]), (18, .int .i64 (IntKind.wrap .i64 (shr .u64 (IntKind.wrap .u64 (IntKind.wrap .i64 (a1 + a3))) 1))), (19, .int .i64 (IntKind.wrap .i64 ((IntKind.wrap .i64 (shr .u64 (IntKind.wrap .u64 (IntKind.wrap .i64 (a1 + a3))) 1)) + a2))), (20, .int .i64 s237.1), (21, .int .i64 s237.2), (22, .int .i64 (IntKind.wrap .i64 ((IntKind.wrap .i64 ((IntKind.wrap .i64 (shr .u64 (IntKind.wrap .u64 (IntKind.wrap .i64 (a1 + a3))) 1)) + a2)) - 1))), (151, .bool (decide (s237.1 < s237.2)))] (qE (qs ?_)))))
     refine gk_cond (b := (decide (s237.1 < s237.2))) (by kernel_rfl) (by kernel_rfl) (fun hc248 => ?_) (fun hc248 => ?_)
     ·have hb239 := cond_t hc248 hb239
      refine qx (qs (qb (qk (qR (qp 7 [0, 1, 2, 3, 4, 18, 19, 20, 21, 22, 23] [(0, .slice A0 a0.length c0), (1, .int .i64 a1), (2, .int .i64 a2), (3, .int .i64 a3), (4, .func (.func 116) #[] #[]), (18, .int .i64 (IntKind.wrap .i64 (shr .u64 (IntKind.wrap .u64 (IntKind.wrap .i64 (a1 + a3))) 1))), (19, .int .i64 (IntKind.wrap .i64 ((IntKind.wrap .i64 (shr .u64 (IntKind.wrap .u64 (IntKind.wrap .i64 (a1 + a3))) 1)) + a2))), (20, .int .i64 s237.1), (21, .int .i64 s237.2), (22, .int .i64 (IntKind.wrap .i64 ((IntKind.wrap .i64 ((IntKind.wrap .i64 (shr .u64 (IntKind.wrap .u64 (IntKind.wrap .i64 (a1 + a3))) 1)) + a2)) - 1))), (23, .int .i64 (IntKind.wrap .i64 (shr .u64 (IntKind.wrap .u64 (IntKind.wrap .i64 (s237.1 + s237.2))) 1)))] (qE (qs (qk ?_))))))))
      refine gk_draw 11 (rng 0 11) (C0 ++ []) (fma ⟨fun q hq => (mal hq), nim⟩) (by kernel_rfl) (by kernel_rfl) (by kernel_rfl) ?_ (by kernel_rfl)
      refine dp 5 [0, 1, 2, 3, 4, 18, 19, 20, 21, 22, 23, 158, 159, 162] [(0, .slice A0 a0.length c0), (1, .int .i64 a1), (2, .int .i64 a2), (3, .int .i64 a3), (4, .func (.func 116) #[] #[]), (18, .int .i64 (IntKind.wrap .i64 (shr .u64 (IntKind.wrap .u64 (IntKind.wrap .i64 (a1 + a3))) 1))), (19, .int .i64 (IntKind.wrap .i64 ((IntKind.wrap .i64 (shr .u64 (IntKind.wrap .u64 (IntKind.wrap .i64 (a1 + a3))) 1)) + a2))), (20, .int .i64 s237.1), (21, .int .i64 s237.2), (22, .int .i64 (IntKind.wrap .i64 ((IntKind.wrap .i64 ((IntKind.wrap .i64 (shr .u64 (IntKind.wrap .u64 (IntKind.wrap .i64 (a1 + a3))) 1)) + a2)) - 1))), (23, .int .i64 (IntKind.wrap .i64 (shr .u64 (IntKind.wrap .u64 (IntKind.wrap .i64 (s237.1 + s237.2))) 1))), (158, .func (.func 116) #[] #[]), (159, .slice A0 a0.length c0), (162, .int .i64 (IntKind.wrap .i64 ((IntKind.wrap .i64 ((IntKind.wrap .i64 ((IntKind.wrap .i64 (shr .u64 (IntKind.wrap .u64 (IntKind.wrap .i64 (a1 + a3))) 1)) + a2)) - 1)) - (IntKind.wrap .i64 (shr .u64 (IntKind.wrap .u64 (IntKind.wrap .i64 (s237.1 + s237.2))) 1)))))] (rng 5 6) (CC.refl (fma ⟨fun q hq => (mal hq), nim⟩)) ?_
      obtain ⟨x249, hx250, hb239⟩ := bind_some hb239
      obtain ⟨p251, cs252, hR253, hA254, ha255, hg257⟩ := OwnS.ixAtG hx250 (hO0.mono (Imm.trans hI227 hI240))
      have hi256 := ix_some hx250
      obtain rfl := kS49_open hR253
      refine gd_q (v := .pointer (some p251)) (by kernel_rfl) (by kernel_rfl) (CC.refl (fma ⟨fun q hq => (mal hq), nim⟩)) (fun I' L' T hC kk => gl_indexAddrF (c := c0) (T' := 22) (e := 50) (xs := (.tmp 159)) (xi := (.tmp 162)) (kd := .i64) ha255 hi256.1 hi256.2.1 (by kernel_rfl) (by kernel_rfl) (by kernel_rfl) (by kernel_rfl) (by kernel_rfl) kk) ?_
      refine gd_q (v := .agg #[.string x249.f0, .string x249.f1]) (by kernel_rfl) (by kernel_rfl) (CC.refl (fma ⟨fun q hq => (mal hq), nim⟩)) (fun I' L' T hC kk => gl_loadOA (T' := 50) (xp := (.tmp 163)) (p := p251) (cs := [.string x249.f0, .string x249.f1]) (by kernel_rfl) (by kernel_rfl) (by kernel_rfl) (by kernel_rfl) ((hA254 _ _ (fun q hq => hC.sub _ (mal hq))).take 2) kk) ?_
      refine dp 2 [0, 1, 2, 3, 4, 18, 19, 20, 21, 22, 23, 158, 164, 165, 166] [(0, .slice A0 a0.length c0), (1, .int .i64 a1), (2, .int .i64 a2), (3, .int .i64 a3), (4, .func (.func 116) #[] #[]), (18, .int .i64 (IntKind.wrap .i64 (shr .u64 (IntKind.wrap .u64 (IntKind.wrap .i64 (a1 + a3))) 1))), (19, .int .i64 (IntKind.wrap .i64 ((IntKind.wrap .i64 (shr .u64 (IntKind.wrap .u64 (IntKind.wrap .i64 (a1 + a3))) 1)) + a2))), (20, .int .i64 s237.1), (21, .int .i64 s237.2), (22, .int .i64 (IntKind.wrap .i64 ((IntKind.wrap .i64 ((IntKind.wrap .i64 (shr .u64 (IntKind.wrap .u64 (IntKind.wrap .i64 (a1 + a3))) 1)) + a2)) - 1))), (23, .int .i64 (IntKind.wrap .i64 (shr .u64 (IntKind.wrap .u64 (IntKind.wrap .i64 (s237.1 + s237.2))) 1))), (158, .func (.func 116) #[] #[]), (164, .agg #[.string x249.f0, .string x249.f1]), (165, .slice A0 a0.length c0), (166, .int .i64 (IntKind.wrap .i64 (shr .u64 (IntKind.wrap .u64 (IntKind.wrap .i64 (s237.1 + s237.2))) 1)))] [(9, true), (10, true)] (CC.refl (fma ⟨fun q hq => (mal hq), nim⟩)) ?_
      obtain ⟨x258, hx259, hb239⟩ := bind_some hb239
      obtain ⟨p260, cs261, hR262, hA263, ha264, hg266⟩ := OwnS.ixAtG hx259 (hO0.mono (Imm.trans hI227 hI240))
      have hi265 := ix_some hx259
      obtain rfl := kS49_open hR262
      refine gd_q (v := .pointer (some p260)) (by kernel_rfl) (by kernel_rfl) (CC.refl (fma ⟨fun q hq => (mal hq), nim⟩)) (fun I' L' T hC kk => gl_indexAddrF (c := c0) (T' := 22) (e := 50) (xs := (.tmp 165)) (xi := (.tmp 166)) (kd := .i64) ha264 hi265.1 hi265.2.1 (by kernel_rfl) (by kernel_rfl) (by kernel_rfl) (by kernel_rfl) (by kernel_rfl) kk) ?_
      refine gd_q (v := .agg #[.string x258.f0, .string x258.f1]) (by kernel_rfl) (by kernel_rfl) (CC.refl (fma ⟨fun q hq => (mal hq), nim⟩)) (fun I' L' T hC kk => gl_loadOA (T' := 50) (xp := (.tmp 167)) (p := p260) (cs := [.string x258.f0, .string x258.f1]) (by kernel_rfl) (by kernel_rfl) (by kernel_rfl) (by kernel_rfl) ((hA263 _ _ (fun q hq => hC.sub _ (mal hq))).take 2) kk) ?_
      refine gd_done ?_
      refine gl_callQ (by kernel_rfl) (labels_sorted_1_walk (r := (labels_sorted_1 x249 x258))  rfl _) ?_
      refine qp 2 [0, 1, 2, 3, 4, 18, 19, 20, 21, 22, 23, 171] [(0, .slice A0 a0.length c0), (1, .int .i64 a1), (2, .int .i64 a2), (3, .int .i64 a3), (4, .func (.func 116) #[] #[]), (18, .int .i64 (IntKind.wrap .i64 (shr .u64 (IntKind.wrap .u64 (IntKind.wrap .i64 (a1 + a3))) 1))), (19, .int .i64 (IntKind.wrap .i64 ((IntKind.wrap .i64 (shr .u64 (IntKind.wrap .u64 (IntKind.wrap .i64 (a1 + a3))) 1)) + a2))), (20, .int .i64 s237.1), (21, .int .i64 s237.2), (22, .int .i64 (IntKind.wrap .i64 ((IntKind.wrap .i64 ((IntKind.wrap .i64 (shr .u64 (IntKind.wrap .u64 (IntKind.wrap .i64 (a1 + a3))) 1)) + a2)) - 1))), (23, .int .i64 (IntKind.wrap .i64 (shr .u64 (IntKind.wrap .u64 (IntKind.wrap .i64 (s237.1 + s237.2))) 1))), (171, .bool (!(decide ((labels_sorted_1 x249 x258) < 0))))] (qE (qs ?_))
      obtain ⟨j267, hj268, hb239⟩ := bind_some hb239
      refine gk_join (fun t I' L' => I242 ≤ I' ∧ C0 ++ L = L' ∧ Knows 220 [(0, .slice A0 a0.length c0), (1, .int .i64 a1), (2, .int .i64 a2), (3, .int .i64 a3), (4, .func (.func 116) #[] #[]), (18, .int .i64 (IntKind.wrap .i64 (shr .u64 (IntKind.wrap .u64 (IntKind.wrap .i64 (a1 + a3))) 1))), (19, .int .i64 (IntKind.wrap .i64 ((IntKind.wrap .i64 (shr .u64 (IntKind.wrap .u64 (IntKind.wrap .i64 (a1 + a3))) 1)) + a2))), (20, .int .i64 j267.1), (21, .int .i64 j267.2), (22, .int .i64 (IntKind.wrap .i64 ((IntKind.wrap .i64 ((IntKind.wrap .i64 (shr .u64 (IntKind.wrap .u64 (IntKind.wrap .i64 (a1 + a3))) 1)) + a2)) - 1)))] t) ?_ ?_
      ·refine gk_cond (b := (!(decide ((labels_sorted_1 x249 x258) < 0)))) (by kernel_rfl) (by kernel_rfl) (fun hc272 => ?_) (fun hc272 => ?_)
       ·have hj268 := cond_t hc272 hj268
        refine qR (qp 3 [0, 1, 2, 3, 4, 18, 19, 20, 21, 22] [(0, .slice A0 a0.length c0), (1, .int .i64 a1), (2, .int .i64 a2), (3, .int .i64 a3), (4, .func (.func 116) #[] #[]), (18, .int .i64 (IntKind.wrap .i64 (shr .u64 (IntKind.wrap .u64 (IntKind.wrap .i64 (a1 + a3))) 1))), (19, .int .i64 (IntKind.wrap .i64 ((IntKind.wrap .i64 (shr .u64 (IntKind.wrap .u64 (IntKind.wrap .i64 (a1 + a3))) 1)) + a2))), (20, .int .i64 (IntKind.wrap .i64 ((IntKind.wrap .i64 (shr .u64 (IntKind.wrap .u64 (IntKind.wrap .i64 (s237.1 + s237.2))) 1)) + 1))), (21, .int .i64 s237.2), (22, .int .i64 (IntKind.wrap .i64 ((IntKind.wrap .i64 ((IntKind.wrap .i64 (shr .u64 (IntKind.wrap .u64 (IntKind.wrap .i64 (a1 + a3))) 1)) + a2)) - 1)))] (qE ?_))
        obtain rfl := some_inj hj268
        exact ge_mid fun t ht => ⟨(Imm.refl _), rfl, ht.pick (l := [0, 1, 2, 3, 4, 18, 19, 20, 21, 22]) (by kernel_rfl)⟩
       ·have hj268 := cond_f hc272 hj268
        refine qR (qp 2 [0, 1, 2, 3, 4, 18, 19, 20, 21, 22] [(0, .slice A0 a0.length c0), (1, .int .i64 a1), (2, .int .i64 a2), (3, .int .i64 a3), (4, .func (.func 116) #[] #[]), (18, .int .i64 (IntKind.wrap .i64 (shr .u64 (IntKind.wrap .u64 (IntKind.wrap .i64 (a1 + a3))) 1))), (19, .int .i64 (IntKind.wrap .i64 ((IntKind.wrap .i64 (shr .u64 (IntKind.wrap .u64 (IntKind.wrap .i64 (a1 + a3))) 1)) + a2))), (20, .int .i64 s237.1), (21, .int .i64 (IntKind.wrap .i64 (shr .u64 (IntKind.wrap .u64 (IntKind.wrap .i64 (s237.1 + s237.2))) 1))), (22, .int .i64 (IntKind.wrap .i64 ((IntKind.wrap .i64 ((IntKind.wrap .i64 (shr .u64 (IntKind.wrap .u64 (IntKind.wrap .i64 (a1 + a3))) 1)) + a2)) - 1)))] (qE ?_))
        obtain rfl := some_inj hj268
        exact ge_mid fun t ht => ⟨(Imm.refl _), rfl, ht.pick (l := [0, 1, 2, 3, 4, 18, 19, 20, 21, 22]) (by kernel_rfl)⟩
      ·rintro t I271 L' ⟨hI269, rfl, hK270⟩
       refine ge_at hK270 ?_
       refine qn ?_
       obtain rfl := some_inj hb239
       exact ge_round fun t ht => ⟨(Imm.trans hI240 hI269), rfl, ht.pick (l := [0, 1, 2, 3, 4, 18, 19, 20, 21, 22]) (by kernel_rfl)⟩
     ·have hb239 := cond_f hc248 hb239
      refine qe (qf ?_)
      obtain rfl := some_inj hb239
      refine ge_round_out (fun hrr => ?_) (by intro h; cases h)
      obtain rfl := hrr
      refine qh ?_
      exact ge_mid fun t ht => ⟨hI240, rfl, ht.pick (l := [0, 1, 2, 3, 4, 18, 19, 20]) (by kernel_rfl)⟩
    ·rintro t I245 L' ⟨hI243, rfl, hK244⟩
     refine ge_at hK244 ?_
     refine qs (qk (qR (qp 4 [0, 1, 2, 3, 4, 18, 20, 24] [(0, .slice A0 a0.length c0), (1, .int .i64 a1), (2, .int .i64 a2), (3, .int .i64 a3), (4, .func (.func 116) #[] #[]), (18, .int .i64 (IntKind.wrap .i64 (shr .u64 (IntKind.wrap .u64 (IntKind.wrap .i64 (a1 + a3))) 1))), (20, .int .i64 r235), (24, .int .i64 (IntKind.wrap .i64 ((IntKind.wrap .i64 ((IntKind.wrap .i64 (shr .u64 (IntKind.wrap .u64 (IntKind.wrap .i64 (a1 + a3))) 1)) + a2)) - r235)))] (qE (qs (qk (qk ?_)))))))
     obtain ⟨b275, hb276⟩ : ∃ z, z = ((decide (r235 < a2)) && (decide (a2 < (IntKind.wrap .i64 ((IntKind.wrap .i64 ((IntKind.wrap .i64 (shr .u64 (IntKind.wrap .u64 (IntKind.wrap .i64 (a1 + a3))) 1)) + a2)) - r235))))) := ⟨_, rfl⟩
     refine gk_join (fun t I' L' => I245 ≤ I' ∧ C0 ++ L = L' ∧ Knows 220 [(0, .slice A0 a0.length c0), (1, .int .i64 a1), (2, .int .i64 a2), (3, .int .i64 a3), (4, .func (.func 116) #[] #[]), (18, .int .i64 (IntKind.wrap .i64 (shr .u64 (IntKind.wrap .u64 (IntKind.wrap .i64 (a1 + a3))) 1))), (20, .int .i64 r235), (24, .int .i64 (IntKind.wrap .i64 ((IntKind.wrap .i64 ((IntKind.wrap .i64 (shr .u64 (IntKind.wrap .u64 (IntKind.wrap .i64 (a1 + a3))) 1)) + a2)) - r235))), (185, .bool b275)] t) ?_ ?_
     ·refine qR (qp 4 [0, 1, 2, 3, 4, 18, 20, 24, 181] [(0, .slice A0 a0.length c0), (1, .int .i64 a1), (2, .int .i64 a2), (3, .int .i64 a3), (4, .func (.func 116) #[] #[]), (18, .int .i64 (IntKind.wrap .i64 (shr .u64 (IntKind.wrap .u64 (IntKind.wrap .i64 (a1 + a3))) 1))), (20, .int .i64 r235), (24, .int .i64 (IntKind.wrap .i64 ((IntKind.wrap .i64 ((IntKind.wrap .i64 (shr .u64 (IntKind.wrap .u64 (IntKind.wrap .i64 (a1 + a3))) 1)) + a2)) - r235))), (181, .bool (decide (r235 < a2)))] ?_)
      refine gl_case 181 (b := (decide (r235 < a2))) (by kernel_rfl) (fun hc278 => ?_) (fun hc278 => ?_)
      ·refine qp 4 [0, 1, 2, 3, 4, 18, 20, 24, 185] [(0, .slice A0 a0.length c0), (1, .int .i64 a1), (2, .int .i64 a2), (3, .int .i64 a3), (4, .func (.func 116) #[] #[]), (18, .int .i64 (IntKind.wrap .i64 (shr .u64 (IntKind.wrap .u64 (IntKind.wrap .i64 (a1 + a3))) 1))), (20, .int .i64 r235), (24, .int .i64 (IntKind.wrap .i64 ((IntKind.wrap .i64 ((IntKind.wrap .i64 (shr .u64 (IntKind.wrap .u64 (IntKind.wrap .i64 (a1 + a3))) 1)) + a2)) - r235))), (185, .bool (decide (a2 < (IntKind.wrap .i64 ((IntKind.wrap .i64 ((IntKind.wrap .i64 (shr .u64 (IntKind.wrap .u64 (IntKind.wrap .i64 (a1 + a3))) 1)) + a2)) - r235)))))] (qE ?_)
       exact ge_mid fun t ht => ⟨(Imm.refl _), rfl, by rw [(show b275 = (decide (a2 < (IntKind.wrap .i64 ((IntKind.wrap .i64 ((IntKind.wrap .i64 (shr .u64 (IntKind.wrap .u64 (IntKind.wrap .i64 (a1 + a3))) 1)) + a2)) - r235)))) from hb276.trans (by first | (rw [hc278]; done) | (rw [hc278]; rfl) | (simp [hc278]; done) | (simp only [hc278]; rfl) | (simp at *; omega)))]; exact ht.pick (l := [0, 1, 2, 3, 4, 18, 20, 24, 185]) (by kernel_rfl)⟩
      ·refine qp 4 [0, 1, 2, 3, 4, 18, 20, 24, 185] [(0, .slice A0 a0.length c0), (1, .int .i64 a1), (2, .int .i64 a2), (3, .int .i64 a3), (4, .func (.func 116) #[] #[]), (18, .int .i64 (IntKind.wrap .i64 (shr .u64 (IntKind.wrap .u64 (IntKind.wrap .i64 (a1 + a3))) 1))), (20, .int .i64 r235), (24, .int .i64 (IntKind.wrap .i64 ((IntKind.wrap .i64 ((IntKind.wrap .i64 (shr .u64 (IntKind.wrap .u64 (IntKind.wrap .i64 (a1 + a3))) 1)) + a2)) - r235))), (185, .bool false)] (qE ?_)
       exact ge_mid fun t ht => ⟨(Imm.refl _), rfl, by rw [(show b275 = false from hb276.trans (by first | (rw [hc278]; done) | (rw [hc278]; rfl) | (simp [hc278]; done) | (simp only [hc278]; rfl) | (simp at *; omega)))]; exact ht.pick (l := [0, 1, 2, 3, 4, 18, 20, 24, 185]) (by kernel_rfl)⟩
     ·rintro t I277 L' ⟨hI273, rfl, hK274⟩
      subst hb276
      refine ge_at hK274 ?_
      refine qs ?_
      obtain ⟨j279, hj280, hr⟩ := bind_some hr
      refine gk_join (fun t I' L' => ∃ C282, OwnS kS49 50 I' A0 c0 j279 C282 ∧ (j279.length = a0.length) ∧ I277 ≤ I' ∧ C282 ++ L = L' ∧ Knows 220 [(0, .slice A0 j279.length c0), (1, .int .i64 a1), (3, .int .i64 a3), (4, .func (.func 116) #[] #[]), (18, .int .i64 (IntKind.wrap .i64 (shr .u64 (IntKind.wrap .u64 (IntKind.wrap .i64 (a1 + a3))) 1))), (20, .int .i64 r235), (24, .int .i64 (IntKind.wrap .i64 ((IntKind.wrap .i64 ((IntKind.wrap .i64 (shr .u64 (IntKind.wrap .u64 (IntKind.wrap .i64 (a1 + a3))) 1)) + a2)) - r235)))] t) ?_ ?_
      ·refine gk_cond (b := ((decide (r235 < a2)) && (decide (a2 < (IntKind.wrap .i64 ((IntKind.wrap .i64 ((IntKind.wrap .i64 (shr .u64 (IntKind.wrap .u64 (IntKind.wrap .i64 (a1 + a3))) 1)) + a2)) - r235)))))) (by kernel_rfl) (by kernel_rfl) (fun hc287 => ?_) (fun hc287 => ?_)
       ·have hj280 := cond_t hc287 hj280
        refine qR (qp 5 [0, 1, 3, 4, 18, 20, 24, 186, 187, 188, 189, 190] [(0, .slice A0 a0.length c0), (1, .int .i64 a1), (3, .int .i64 a3), (4, .func (.func 116) #[] #[]), (18, .int .i64 (IntKind.wrap .i64 (shr .u64 (IntKind.wrap .u64 (IntKind.wrap .i64 (a1 + a3))) 1))), (20, .int .i64 r235), (24, .int .i64 (IntKind.wrap .i64 ((IntKind.wrap .i64 ((IntKind.wrap .i64 (shr .u64 (IntKind.wrap .u64 (IntKind.wrap .i64 (a1 + a3))) 1)) + a2)) - r235))), (186, .slice A0 a0.length c0), (187, .int .i64 r235), (188, .int .i64 a2), (189, .int .i64 (IntKind.wrap .i64 ((IntKind.wrap .i64 ((IntKind.wrap .i64 (shr .u64 (IntKind.wrap .u64 (IntKind.wrap .i64 (a1 + a3))) 1)) + a2)) - r235))), (190, .func (.func 116) #[] #[])] ?_)
        obtain ⟨y288, hx289, hj280⟩ := bind_some hj280
        refine gl_call (by kernel_rfl) (slices_rotateCmpFunc_walk (r := y288) (A0 := A0) (c0 := c0) (C0 := C0) (a0 := a0) (hO0.mono (Imm.trans (Imm.trans hI227 hI243) hI273)) hx289 _) ?_
        rintro v I290 L291 hI292 ⟨C293, hO294, hO295, rfl, rfl⟩
        refine gl_pick [0, 1, 3, 4, 18, 20, 24, 186, 187, 188, 189, 190, 191] (K' := [(0, .slice A0 a0.length c0), (1, .int .i64 a1), (3, .int .i64 a3), (4, .func (.func 116) #[] #[]), (18, .int .i64 (IntKind.wrap .i64 (shr .u64 (IntKind.wrap .u64 (IntKind.wrap .i64 (a1 + a3))) 1))), (20, .int .i64 r235), (24, .int .i64 (IntKind.wrap .i64 ((IntKind.wrap .i64 ((IntKind.wrap .i64 (shr .u64 (IntKind.wrap .u64 (IntKind.wrap .i64 (a1 + a3))) 1)) + a2)) - r235))), (186, .slice A0 a0.length c0), (187, .int .i64 r235), (188, .int .i64 a2), (189, .int .i64 (IntKind.wrap .i64 ((IntKind.wrap .i64 ((IntKind.wrap .i64 (shr .u64 (IntKind.wrap .u64 (IntKind.wrap .i64 (a1 + a3))) 1)) + a2)) - r235))), (190, .func (.func 116) #[] #[]), (191, .tuple #[])]) (by kernel_rfl) ?_
        refine gl_kv (congrArg (fun (zz : Nat) => ([(0, .slice A0 zz c0), (1, .int .i64 a1), (3, .int .i64 a3), (4, .func (.func 116) #[] #[]), (18, .int .i64 (IntKind.wrap .i64 (shr .u64 (IntKind.wrap .u64 (IntKind.wrap .i64 (a1 + a3))) 1))), (20, .int .i64 r235), (24, .int .i64 (IntKind.wrap .i64 ((IntKind.wrap .i64 ((IntKind.wrap .i64 (shr .u64 (IntKind.wrap .u64 (IntKind.wrap .i64 (a1 + a3))) 1)) + a2)) - r235))), (186, .slice A0 zz c0), (187, .int .i64 r235), (188, .int .i64 a2), (189, .int .i64 (IntKind.wrap .i64 ((IntKind.wrap .i64 ((IntKind.wrap .i64 (shr .u64 (IntKind.wrap .u64 (IntKind.wrap .i64 (a1 + a3))) 1)) + a2)) - r235))), (190, .func (.func 116) #[] #[]), (191, .tuple #[])] : KV)) hO295.symm) ?_
        refine qE ?_
        obtain rfl := some_inj hj280
        exact ge_mid fun t ht => ⟨C293, hO294, (Eq.trans hO295 rfl), hI292, rfl, ht.pick (l := [0, 1, 3, 4, 18, 20, 24]) (by kernel_rfl)⟩
       ·have hj280 := cond_f hc287 hj280
        refine qx ?_
        obtain rfl := some_inj hj280
        exact ge_mid fun t ht => ⟨C0, (hO0.mono (Imm.trans (Imm.trans hI227 hI243) hI273)), rfl, (Imm.refl _), rfl, ht.pick (l := [0, 1, 3, 4, 18, 20, 24]) (by kernel_rfl)⟩
      ·rintro t I286 L' ⟨C282, hO283, hL284, hI281, rfl, hK285⟩
       refine ge_at hK285 ?_
       refine qs (qk (qk ?_))
       obtain ⟨b298, hb299⟩ : ∃ z, z = ((decide (a1 < r235)) && (decide (r235 < (IntKind.wrap .i64 (shr .u64 (IntKind.wrap .u64 (IntKind.wrap .i64 (a1 + a3))) 1))))) := ⟨_, rfl⟩
       refine gk_join (fun t I' L' => I286 ≤ I' ∧ C282 ++ L = L' ∧ Knows 220 [(0, .slice A0 j279.length c0), (1, .int .i64 a1), (3, .int .i64 a3), (4, .func (.func 116) #[] #[]), (18, .int .i64 (IntKind.wrap .i64 (shr .u64 (IntKind.wrap .u64 (IntKind.wrap .i64 (a1 + a3))) 1))), (20, .int .i64 r235), (24, .int .i64 (IntKind.wrap .i64 ((IntKind.wrap .i64 ((IntKind.wrap .i64 (shr .u64 (IntKind.wrap .u64 (IntKind.wrap .i64 (a1 + a3))) 1)) + a2)) - r235))), (199, .bool b298)] t) ?_ ?_
       ·refine qR (qp 4 [0, 1, 3, 4, 18, 20, 24, 195] [(0, .slice A0 j279.length c0), (1, .int .i64 a1), (3, .int .i64 a3), (4, .func (.func 116) #[] #[]), (18, .int .i64 (IntKind.wrap .i64 (shr .u64 (IntKind.wrap .u64 (IntKind.wrap .i64 (a1 + a3))) 1))), (20, .int .i64 r235), (24, .int .i64 (IntKind.wrap .i64 ((IntKind.wrap .i64 ((IntKind.wrap .i64 (shr .u64 (IntKind.wrap .u64 (IntKind.wrap .i64 (a1 + a3))) 1)) + a2)) - r235))), (195, .bool (decide (a1 < r235)))] ?_)
        refine gl_case 195 (b := (decide (a1 < r235))) (by kernel_rfl) (fun hc301 => ?_) (fun hc301 => ?_)
        ·refine qp 4 [0, 1, 3, 4, 18, 20, 24, 199] [(0, .slice A0 j279.length c0), (1, .int .i64 a1), (3, .int .i64 a3), (4, .func (.func 116) #[] #[]), (18, .int .i64 (IntKind.wrap .i64 (shr .u64 (IntKind.wrap .u64 (IntKind.wrap .i64 (a1 + a3))) 1))), (20, .int .i64 r235), (24, .int .i64 (IntKind.wrap .i64 ((IntKind.wrap .i64 ((IntKind.wrap .i64 (shr .u64 (IntKind.wrap .u64 (IntKind.wrap .i64 (a1 + a3))) 1)) + a2)) - r235))), (199, .bool (decide (r235 < (IntKind.wrap .i64 (shr .u64 (IntKind.wrap .u64 (IntKind.wrap .i64 (a1 + a3))) 1)))))] (qE ?_)
         exact ge_mid fun t ht => ⟨(Imm.refl _), rfl, by rw [(show b298 = (decide (r235 < (IntKind.wrap .i64 (shr .u64 (IntKind.wrap .u64 (IntKind.wrap .i64 (a1 + a3))) 1)))) from hb299.trans (by first | (rw [hc301]; done) | (rw [hc301]; rfl) | (simp [hc301]; done) | (simp only [hc301]; rfl) | (simp at *; omega)))]; exact ht.pick (l := [0, 1, 3, 4, 18, 20, 24, 199]) (by kernel_rfl)⟩
        ·refine qp 4 [0, 1, 3, 4, 18, 20, 24, 199] [(0, .slice A0 j279.length c0), (1, .int .i64 a1), (3, .int .i64 a3), (4, .func (.func 116) #[] #[]), (18, .int .i64 (IntKind.wrap .i64 (shr .u64 (IntKind.wrap .u64 (IntKind.wrap .i64 (a1 + a3))) 1))), (20, .int .i64 r235), (24, .int .i64 (IntKind.wrap .i64 ((IntKind.wrap .i64 ((IntKind.wrap .i64 (shr .u64 (IntKind.wrap .u64 (IntKind.wrap .i64 (a1 + a3))) 1)) + a2)) - r235))), (199, .bool false)] (qE ?_)
         exact ge_mid fun t ht => ⟨(Imm.refl _), rfl, by rw [(show b298 = false from hb299.trans (by first | (rw [hc301]; done) | (rw [hc301]; rfl) | (simp [hc301]; done) | (simp only [hc301]; rfl) | (simp at *; omega)))]; exact ht.pick (l := [0, 1, 3, 4, 18, 20, 24, 199]) (by kernel_rfl)⟩
       ·rintro t I300 L' ⟨hI296, rfl, hK297⟩
        subst hb299
        refine ge_at hK297 ?_
        refine qs ?_
        obtain ⟨j302, hj303, hr⟩ := bind_some hr
        refine gk_join (fun t I' L' => ∃ C305, OwnS kS49 50 I' A0 c0 j302 C305 ∧ (j302.length = a0.length) ∧ I300 ≤ I' ∧ C305 ++ L = L' ∧ Knows 220 [(0, .slice A0 j302.length c0), (3, .int .i64 a3), (4, .func (.func 116) #[] #[]), (18, .int .i64 (IntKind.wrap .i64 (shr .u64 (IntKind.wrap .u64 (IntKind.wrap .i64 (a1 + a3))) 1))), (24, .int .i64 (IntKind.wrap .i64 ((IntKind.wrap .i64 ((IntKind.wrap .i64 (shr .u64 (IntKind.wrap .u64 (IntKind.wrap .i64 (a1 + a3))) 1)) + a2)) - r235)))] t) ?_ ?_
        ·refine gk_cond (b := ((decide (a1 < r235)) && (decide (r235 < (IntKind.wrap .i64 (shr .u64 (IntKind.wrap .u64 (IntKind.wrap .i64 (a1 + a3))) 1)))))) (by kernel_rfl) (by kernel_rfl) (fun hc310 => ?_) (fun hc310 => ?_)
         ·have hj303 := cond_t hc310 hj303
          refine qR (qp 5 [0, 3, 4, 18, 24, 200, 201, 202, 203, 204] [(0, .slice A0 j279.length c0), (3, .int .i64 a3), (4, .func (.func 116) #[] #[]), (18, .int .i64 (IntKind.wrap .i64 (shr .u64 (IntKind.wrap .u64 (IntKind.wrap .i64 (a1 + a3))) 1))), (24, .int .i64 (IntKind.wrap .i64 ((IntKind.wrap .i64 ((IntKind.wrap .i64 (shr .u64 (IntKind.wrap .u64 (IntKind.wrap .i64 (a1 + a3))) 1)) + a2)) - r235))), (200, .slice A0 j279.length c0), (201, .int .i64 a1), (202, .int .i64 r235), (203, .int .i64 (IntKind.wrap .i64 (shr .u64 (IntKind.wrap .u64 (IntKind.wrap .i64 (a1 + a3))) 1))), (204, .func (.func 116) #[] #[])] ?_)
          obtain ⟨y311, hx312, hj303⟩ := bind_some hj303
          refine gl_call (by kernel_rfl) (rec__walk (r := y311) (A0 := A0) (c0 := c0) (C0 := C282) (a0 := j279) (hO283.mono hI296) hx312 _) ?_
          rintro v I313 L314 hI315 ⟨C316, hO317, hO318, rfl, rfl⟩
          refine gl_pick [0, 3, 4, 18, 24, 200, 201, 202, 203, 204, 205] (K' := [(0, .slice A0 j279.length c0), (3, .int .i64 a3), (4, .func (.func 116) #[] #[]), (18, .int .i64 (IntKind.wrap .i64 (shr .u64 (IntKind.wrap .u64 (IntKind.wrap .i64 (a1 + a3))) 1))), (24, .int .i64 (IntKind.wrap .i64 ((IntKind.wrap .i64 ((IntKind.wrap .i64 (shr .u64 (IntKind.wrap .u64 (IntKind.wrap .i64 (a1 + a3))) 1)) + a2)) - r235))), (200, .slice A0 j279.length c0), (201, .int .i64 a1), (202, .int .i64 r235), (203, .int .i64 (IntKind.wrap .i64 (shr .u64 (IntKind.wrap .u64 (IntKind.wrap .i64 (a1 + a3))) 1))), (204, .func (.func 116) #[] #[]), (205, .tuple #[])]) (by kernel_rfl) ?_
          refine gl_kv (congrArg (fun (zz : Nat) => ([(0, .slice A0 zz c0), (3, .int .i64 a3), (4, .func (.func 116) #[] #[]), (18, .int .i64 (IntKind.wrap .i64 (shr .u64 (IntKind.wrap .u64 (IntKind.wrap .i64 (a1 + a3))) 1))), (24, .int .i64 (IntKind.wrap .i64 ((IntKind.wrap .i64 ((IntKind.wrap .i64 (shr .u64 (IntKind.wrap .u64 (IntKind.wrap .i64 (a1 + a3))) 1)) + a2)) - r235))), (200, .slice A0 zz c0), (201, .int .i64 a1), (202, .int .i64 r235), (203, .int .i64 (IntKind.wrap .i64 (shr .u64 (IntKind.wrap .u64 (IntKind.wrap .i64 (a1 + a3))) 1))), (204, .func (.func 116) #[] #[]), (205, .tuple #[])] : KV)) hO318.symm) ?_
          refine qE ?_
          obtain rfl := some_inj hj303
          exact ge_mid fun t ht => ⟨C316, hO317, (Eq.trans hO318 hL284), hI315, rfl, ht.pick (l := [0, 3, 4, 18, 24]) (by kernel_rfl)⟩
         ·have hj303 := cond_f hc310 hj303
          refine qx ?_
          obtain rfl := some_inj hj303
          exact ge_mid fun t ht => ⟨C282, (hO283.mono hI296), hL284, (Imm.refl _), rfl, ht.pick (l := [0, 3, 4, 18, 24]) (by kernel_rfl)⟩
        ·rintro t I309 L' ⟨C305, hO306, hL307, hI304, rfl, hK308⟩
         refine ge_at hK308 ?_
         refine qs (qk ?_)
         obtain ⟨b321, hb322⟩ : ∃ z, z = ((decide ((IntKind.wrap .i64 (shr .u64 (IntKind.wrap .u64 (IntKind.wrap .i64 (a1 + a3))) 1)) < (IntKind.wrap .i64 ((IntKind.wrap .i64 ((IntKind.wrap .i64 (shr .u64 (IntKind.wrap .u64 (IntKind.wrap .i64 (a1 + a3))) 1)) + a2)) - r235)))) && (decide ((IntKind.wrap .i64 ((IntKind.wrap .i64 ((IntKind.wrap .i64 (shr .u64 (IntKind.wrap .u64 (IntKind.wrap .i64 (a1 + a3))) 1)) + a2)) - r235)) < a3))) := ⟨_, rfl⟩
         refine gk_join (fun t I' L' => I309 ≤ I' ∧ C305 ++ L = L' ∧ Knows 220 [(0, .slice A0 j302.length c0), (3, .int .i64 a3), (4, .func (.func 116) #[] #[]), (18, .int .i64 (IntKind.wrap .i64 (shr .u64 (IntKind.wrap .u64 (IntKind.wrap .i64 (a1 + a3))) 1))), (24, .int .i64 (IntKind.wrap .i64 ((IntKind.wrap .i64 ((IntKind.wrap .i64 (shr .u64 (IntKind.wrap .u64 (IntKind.wrap .i64 (a1 + a3))) 1)) + a2)) - r235))), (213, .bool b321)] t) ?_ ?_
         ·refine qR (qp 4 [0, 3, 4, 18, 24, 209] [(0, .slice A0 j302.length c0), (3, .int .i64 a3), (4, .func (.func 116) #[] #[]), (18, .int .i64 (IntKind.wrap .i64 (shr .u64 (IntKind.wrap .u64 (IntKind.wrap .i64 (a1 + a3))) 1))), (24, .int .i64 (IntKind.wrap .i64 ((IntKind.wrap .i64 ((IntKind.wrap .i64 (shr .u64 (IntKind.wrap .u64 (IntKind.wrap .i64 (a1 + a3))) 1)) + a2)) - r235))), (209, .bool (decide ((IntKind.wrap .i64 (shr .u64 (IntKind.wrap .u64 (IntKind.wrap .i64 (a1 + a3))) 1)) < (IntKind.wrap .i64 ((IntKind.wrap .i64 ((IntKind.wrap .i64 (shr .u64 (IntKind.wrap .u64 (IntKind.wrap .i64 (a1 + a3))) 1)) + a2)) - r235)))))] ?_)
          refine gl_case 209 (b := (decide ((IntKind.wrap .i64 (shr .u64 (IntKind.wrap .u64 (IntKind.wrap .i64 (a1 + a3))) 1)) < (IntKind.wrap .i64 ((IntKind.wrap .i64 ((IntKind.wrap .i64 (shr .u64 (IntKind.wrap .u64 (IntKind.wrap .i64 (a1 + a3))) 1)) + a2)) - r235))))) (by kernel_rfl) (fun hc324 => ?_) (fun hc324 => ?_)
          ·refine qp 4 [0, 3, 4, 18, 24, 213] [(0, .slice A0 j302.length c0), (3, .int .i64 a3), (4, .func (.func 116) #[] #[]), (18, .int .i64 (IntKind.wrap .i64 (shr .u64 (IntKind.wrap .u64 (IntKind.wrap .i64 (a1 + a3))) 1))), (24, .int .i64 (IntKind.wrap .i64 ((IntKind.wrap .i64 ((IntKind.wrap .i64 (shr .u64 (IntKind.wrap .u64 (IntKind.wrap .i64 (a1 + a3))) 1)) + a2)) - r235))), (213, .bool (decide ((IntKind.wrap .i64 ((IntKind.wrap .i64 ((IntKind.wrap .i64 (shr .u64 (IntKind.wrap .u64 (IntKind.wrap .i64 (a1 + a3))) 1)) + a2)) - r235)) < a3)))] (qE ?_)
           exact ge_mid fun t ht => ⟨(Imm.refl _), rfl, by rw [(show b321 = (decide ((IntKind.wrap .i64 ((IntKind.wrap .i64 ((IntKind.wrap .i64 (shr .u64 (IntKind.wrap .u64 (IntKind.wrap .i64 (a1 + a3))) 1)) + a2)) - r235)) < a3)) from hb322.trans (by first | (rw [hc324]; done) | (rw [hc324]; rfl) | (simp [hc324]; done) | (simp only [hc324]; rfl) | (simp at *; omega)))]; exact ht.pick (l := [0, 3, 4, 18, 24, 213]) (by kernel_rfl)⟩
          ·refine qp 4 [0, 3, 4, 18, 24, 213] [(0, .slice A0 j302.length c0), (3, .int .i64 a3), (4, .func (.func 116) #[] #[]), (18, .int .i64 (IntKind.wrap .i64 (shr .u64 (IntKind.wrap .u64 (IntKind.wrap .i64 (a1 + a3))) 1))), (24, .int .i64 (IntKind.wrap .i64 ((IntKind.wrap .i64 ((IntKind.wrap .i64 (shr .u64 (IntKind.wrap .u64 (IntKind.wrap .i64 (a1 + a3))) 1)) + a2)) - r235))), (213, .bool false)] (qE ?_)
           exact ge_mid fun t ht => ⟨(Imm.refl _), rfl, by rw [(show b321 = false from hb322.trans (by first | (rw [hc324]; done) | (rw [hc324]; rfl) | (simp [hc324]; done) | (simp only [hc324]; rfl) | (simp at *; omega)))]; exact ht.pick (l := [0, 3, 4, 18, 24, 213]) (by kernel_rfl)⟩
         ·rintro t I323 L' ⟨hI319, rfl, hK320⟩
          subst hb322
          refine ge_at hK320 ?_
          refine qs ?_
          obtain ⟨j325, hj326, hr⟩ := bind_some hr
          refine gk_join (fun t I' L' => ∃ C328, OwnS kS49 50 I' A0 c0 j325 C328 ∧ (j325.length = a0.length) ∧ I323 ≤ I' ∧ C328 ++ L = L' ∧ Knows 220 [(0, .slice A0 j325.length c0)] t) ?_ ?_
          ·refine gk_cond (b := ((decide ((IntKind.wrap .i64 (shr .u64 (IntKind.wrap .u64 (IntKind.wrap .i64 (a1 + a3))) 1)) < (IntKind.wrap .i64 ((IntKind.wrap .i64 ((IntKind.wrap .i64 (shr .u64 (IntKind.wrap .u64 (IntKind.wrap .i64 (a1 + a3))) 1)) + a2)) - r235)))) && (decide ((IntKind.wrap .i64 ((IntKind.wrap .i64 ((IntKind.wrap .i64 (shr .u64 (IntKind.wrap .u64 (IntKind.wrap .i64 (a1 + a3))) 1)) + a2)) - r235)) < a3)))) (by kernel_rfl) (by kernel_rfl) (fun hc333 => ?_) (fun hc333 => ?_)
           ·have hj326 := cond_t hc333 hj326
            refine qR (qp 5 [0, 214, 215, 216, 217, 218] [(0, .slice A0 j302.length c0), (214, .slice A0 j302.length c0), (215, .int .i64 (IntKind.wrap .i64 (shr .u64 (IntKind.wrap .u64 (IntKind.wrap .i64 (a1 + a3))) 1))), (216, .int .i64 (IntKind.wrap .i64 ((IntKind.wrap .i64 ((IntKind.wrap .i64 (shr .u64 (IntKind.wrap .u64 (IntKind.wrap .i64 (a1 + a3))) 1)) + a2)) - r235))), (217, .int .i64 a3), (218, .func (.func 116) #[] #[])] ?_)
            obtain ⟨y334, hx335, hj326⟩ := bind_some hj326
            refine gl_call (by kernel_rfl) (rec__walk (r := y334) (A0 := A0) (c0 := c0) (C0 := C305) (a0 := j302) (hO306.mono hI319) hx335 _) ?_
            rintro v I336 L337 hI338 ⟨C339, hO340, hO341, rfl, rfl⟩
            refine gl_pick [0, 214, 215, 216, 217, 218, 219] (K' := [(0, .slice A0 j302.length c0), (214, .slice A0 j302.length c0), (215, .int .i64 (IntKind.wrap .i64 (shr .u64 (IntKind.wrap .u64 (IntKind.wrap .i64 (a1 + a3))) 1))), (216, .int .i64 (IntKind.wrap .i64 ((IntKind.wrap .i64 ((IntKind.wrap .i64 (shr .u64 (IntKind.wrap .u64 (IntKind.wrap .i64 (a1 + a3))) 1)) + a2)) - r235))), (217, .int .i64 a3), (218, .func (.func 116) #[] #[]), (219, .tuple #[])]) (by kernel_rfl) ?_
            refine gl_kv (congrArg (fun (zz : Nat) => ([(0, .slice A0 zz c0), (214, .slice A0 zz c0), (215, .int .i64 (IntKind.wrap .i64 (shr .u64 (IntKind.wrap .u64 (IntKind.wrap .i64 (a1 + a3))) 1))), (216, .int .i64 (IntKind.wrap .i64 ((IntKind.wrap .i64 ((IntKind.wrap .i64 (shr .u64 (IntKind.wrap .u64 (IntKind.wrap .i64 (a1 + a3))) 1)) + a2)) - r235))), (217, .int .i64 a3), (218, .func (.func 116) #[] #[]), (219, .tuple #[])] : KV)) hO341.symm) ?_
            refine qE ?_
            obtain rfl := some_inj hj326
            exact ge_mid fun t ht => ⟨C339, hO340, (Eq.trans hO341 hL307), hI338, rfl, ht.pick (l := [0]) (by kernel_rfl)⟩
           ·have hj326 := cond_f hc333 hj326
            refine qx ?_
            obtain rfl := some_inj hj326
            exact ge_mid fun t ht => ⟨C305, (hO306.mono hI319), hL307, (Imm.refl _), rfl, ht.pick (l := [0]) (by kernel_rfl)⟩
          ·rintro t I332 L' ⟨C328, hO329, hL330, hI327, rfl, hK331⟩
           refine ge_at hK331 ?_
           obtain rfl := some_inj hr
           exact ge_result trivial ResOk.nil (Imm.trans (Imm.trans (Imm.trans (Imm.trans (Imm.trans (Imm.trans (Imm.trans hI227 hI243) hI273) hI281) hI296) hI304) hI319) hI327) ⟨C328, hO329, hL330, rfl, rfl⟩
theorem slices_symMergeCmpFunc_walk {a0 : List S49} {A0 : Option Addr} {c0 : Nat} {C0 : Own} {a1 : Int} {a2 : Int} {a3 : Int} {I : Imm} {r : (List S49)} (hO0 : OwnS kS49 50 I A0 c0 a0 C0) (hr : slices_symMergeCmpFunc a0 a1 a2 a3 = some r) (L : Own) :
  CallsTo Tryz.prog 145 #[.slice A0 a0.length c0, .int .i64 a1, .int .i64 a2, .int .i64 a3, .func (.func 116) #[] #[]] I (C0 ++ L) (fun v I' L' => ∃ C0, OwnS kS49 50 I' A0 c0 r C0 ∧ r.length = a0.length ∧ v = .tuple #[] ∧ C0 ++ L = L') := by
 have key : ∀ n : Nat, ∀ {a0 : List S49} {A0 : Option Addr} {c0 : Nat} {C0 : Own} {a1 : Int} {a2 : Int} {a3 : Int} {I : Imm} {r : (List S49)} (hO0 : OwnS kS49 50 I A0 c0 a0 C0) (hr : iterF (fun (rec_ : ((List S49) × Int × Int × Int) → Option (List S49)) (x : (List S49) × Int × Int × Int) => slices_symMergeCmpFunc_b (fun a0 a1 a2 a3 => rec_ (a0, a1, a2, a3)) x.1 x.2.1 x.2.2.1 x.2.2.2) n (a0, a1, a2, a3) = some r) (L : Own), CallsTo Tryz.prog 145 #[.slice A0 a0.length c0, .int .i64 a1, .int .i64 a2, .int .i64 a3, .func (.func 116) #[] #[]] I (C0 ++ L) (fun v I' L' => ∃ C0, OwnS kS49 50 I' A0 c0 r C0 ∧ r.length = a0.length ∧ v = .tuple #[] ∧ C0 ++ L = L') := by
  intro n
  induction n with
  | zero => intro _ _ _ _ _ _ _ _ _ _ hr _; cases hr
  | succ n ih => intro a0 A0 c0 C0 a1 a2 a3 I r hO0 hr L; exact slices_symMergeCmpFunc_b_walk (rec_ := fun a0 a1 a2 a3 => iterF (fun (rec_ : ((List S49) × Int × Int × Int) → Option (List S49)) (x : (List S49) × Int × Int × Int) => slices_symMergeCmpFunc_b (fun a0 a1 a2 a3 => rec_ (a0, a1, a2, a3)) x.1 x.2.1 x.2.2.1 x.2.2.2) n (a0, a1, a2, a3)) ih hO0 hr L
 exact key _ hO0 hr L
/-! 135 slices_stableCmpFunc ('inp', 'imm', ('cfn', 116)) -/
noncomputable def slices_stableCmpFunc_l25 (a1 : Int) : ((List S49) × Int × Int) → Option (((List S49) × Int × Int) ⊕ ((List S49) × Int)) := fun s10 =>
 bif (decide (s10.2.2 ≤ a1)) then
 (Option.bind (slices_insertionSortCmpFunc s10.1 s10.2.1 s10.2.2) fun (y28 : (List S49)) =>
  some (Sum.inl (y28, s10.2.2, (IntKind.wrap .i64 (s10.2.2 + 20)))))
 else
 (some (Sum.inr (s10.1, s10.2.1)))
noncomputable def slices_stableCmpFunc_l95 (a1 : Int) (s53 : (List S49) × Int) : ((List S49) × Int × Int) → Option (((List S49) × Int × Int) ⊕ ((List S49) × Int)) := fun s80 =>
 bif (decide (s80.2.2 ≤ a1)) then
 (Option.bind (slices_symMergeCmpFunc s80.1 s80.2.1 (IntKind.wrap .i64 (s80.2.1 + s53.2)) s80.2.2) fun (y98 : (List S49)) =>
  some (Sum.inl (y98, s80.2.2, (IntKind.wrap .i64 (s80.2.2 + (IntKind.wrap .i64 (2 * s53.2)))))))
 else
 (some (Sum.inr (s80.1, s80.2.1)))
noncomputable def slices_stableCmpFunc_l68 (a1 : Int) : ((List S49) × Int) → Option (((List S49) × Int) ⊕ ((List S49))) := fun s53 =>
 bif (decide (s53.2 < a1)) then
 (Option.bind (loopO (slices_stableCmpFunc_l95 a1 s53) (s53.1, 0, (IntKind.wrap .i64 (2 * s53.2)))) fun (r78 : (List S49) × Int) =>
  Option.bind (bif (decide ((IntKind.wrap .i64 (r78.2 + s53.2)) < a1)) then
   (Option.bind (slices_symMergeCmpFunc r78.1 r78.2 (IntKind.wrap .i64 (r78.2 + s53.2)) a1) fun (y115 : (List S49)) =>
    some y115)
   else
   (some r78.1)) fun (j106 : (List S49)) =>
  some (Sum.inl (j106, (IntKind.wrap .i64 (s53.2 * 2)))))
 else
 (some (Sum.inr s53.1))
noncomputable def slices_stableCmpFunc (a0 : List S49) (a1 : Int) : Option (List S49) :=
 Option.bind (loopO (slices_stableCmpFunc_l25 a1) (a0, 0, 20)) fun (r8 : (List S49) × Int) =>
 Option.bind (slices_insertionSortCmpFunc r8.1 r8.2 a1) fun (y36 : (List S49)) =>
 Option.bind (loopO (slices_stableCmpFunc_l68 a1) (y36, 20)) fun (r51 : (List S49)) =>
 some r51
theorem slices_stableCmpFunc_walk {a0 : List S49} {A0 : Option Addr} {c0 : Nat} {C0 : Own} {a1 : Int} {I : Imm} {r : (List S49)} (hO0 : OwnS kS49 50 I A0 c0 a0 C0) (hr : slices_stableCmpFunc a0 a1 = some r) (L : Own) :
  CallsTo Tryz.prog 135 #[.slice A0 a0.length c0, .int .i64 a1, .func (.func 116) #[] #[]] I (C0 ++ L) (fun v I' L' => ∃ C0, OwnS kS49 50 I' A0 c0 r C0 ∧ r.length = a0.length ∧ v = .tuple #[] ∧ C0 ++ L = L') := by
 unfold slices_stableCmpFunc at hr
 refine callsTo_body (N := 63) Tryz.func135 (by kernel_rfl) (by kernel_rfl) (by kernel_rfl) ?_
 refine qq [0, 1, 2] [(0, .slice A0 a0.length c0), (1, .int .i64 a1), (2, .func (.func 116) #[] #[])] (qk (qR (qp 1 [0, 1, 2, 6] [(0, .slice A0 a0.length c0), (1, .int .i64 a1), (2, .func (.func 116) #[] #[]), (6, .int .i64 20)] (qE (qs (qk (qR (qp 3 [0, 1, 2, 6, 7, 8] [(0, .slice A0 a0.length c0), (1, .int .i64 a1), (2, .func (.func 116) #[] #[]), (6, .int .i64 20), (7, .int .i64 0), (8, .int .i64 20)] (qE (qs (qk ?_)))))))))))
 obtain ⟨r8, hl9, hr⟩ := bind_some hr
 refine gk_join (fun t I' L' => ∃ C20, OwnS kS49 50 I' A0 c0 r8.1 C20 ∧ (r8.1.length = a0.length) ∧ I ≤ I' ∧ C20 ++ L = L' ∧ Knows 63 [(0, .slice A0 r8.1.length c0), (1, .int .i64 a1), (2, .func (.func 116) #[] #[]), (6, .int .i64 20), (7, .int .i64 r8.2)] t) ?_ ?_
 ·refine qb (qq [0, 1, 2, 6, 7, 8] [(0, .slice A0 a0.length c0), (1, .int .i64 a1), (2, .func (.func 116) #[] #[]), (6, .int .i64 20), (7, .int .i64 0), (8, .int .i64 20)] ?_)
  intro t hK
  refine gc_loop (slices_stableCmpFunc_l25 a1) (fun s10 t I' L' => ∃ C14, OwnS kS49 50 I' A0 c0 s10.1 C14 ∧ (s10.1.length = a0.length) ∧ I ≤ I' ∧ C14 ++ L = L' ∧ Knows 63 [(0, .slice A0 s10.1.length c0), (1, .int .i64 a1), (2, .func (.func 116) #[] #[]), (6, .int .i64 20), (7, .int .i64 s10.2.1), (8, .int .i64 s10.2.2)] t) (by kernel_rfl) ?_ hl9 ⟨C0, hO0, rfl, (Imm.refl _), rfl, hK⟩
  rintro s10 o11 t I18 L' hb12 ⟨C14, hO15, hL16, hI13, rfl, hK17⟩
  unfold slices_stableCmpFunc_l25 at hb12
  refine gk_at hK17 ?_
  refine qk (qk (qR (qp 3 [0, 1, 2, 6, 7, 8, 13] [(0, .slice A0 s10.1.length c0), (1, .int .i64 a1), (2, .func (.func 116) #[] #[]), (6, .int .i64 20), (7, .int .i64 s10.2.1), (8, .int .i64 s10.2.2), (13, .bool (decide (s10.2.2 ≤ a1)))] (qE (qs ?_)))))
  refine gk_cond (b := (decide (s10.2.2 ≤ a1))) (by kernel_rfl) (by kernel_rfl) (fun hc27 => ?_) (fun hc27 => ?_)
  ·have hb12 := cond_t hc27 hb12
   refine qx (qs (qb (qk (qR (qp 4 [0, 1, 2, 6, 8, 14, 15, 16, 17] [(0, .slice A0 s10.1.length c0), (1, .int .i64 a1), (2, .func (.func 116) #[] #[]), (6, .int .i64 20), (8, .int .i64 s10.2.2), (14, .slice A0 s10.1.length c0), (15, .int .i64 s10.2.1), (16, .int .i64 s10.2.2), (17, .func (.func 116) #[] #[])] ?_)))))
   obtain ⟨y28, hx29, hb12⟩ := bind_some hb12
   refine gl_call (by kernel_rfl) (slices_insertionSortCmpFunc_walk (r := y28) (A0 := A0) (c0 := c0) (C0 := C14) (a0 := s10.1) hO15 hx29 _) ?_
   rintro v I30 L31 hI32 ⟨C33, hO34, hO35, rfl, rfl⟩
   refine gl_pick [0, 1, 2, 6, 8, 14, 15, 16, 17, 18] (K' := [(0, .slice A0 s10.1.length c0), (1, .int .i64 a1), (2, .func (.func 116) #[] #[]), (6, .int .i64 20), (8, .int .i64 s10.2.2), (14, .slice A0 s10.1.length c0), (15, .int .i64 s10.2.1), (16, .int .i64 s10.2.2), (17, .func (.func 116) #[] #[]), (18, .tuple #[])]) (by kernel_rfl) ?_
   refine gl_kv (congrArg (fun (zz : Nat) => ([(0, .slice A0 zz c0), (1, .int .i64 a1), (2, .func (.func 116) #[] #[]), (6, .int .i64 20), (8, .int .i64 s10.2.2), (14, .slice A0 zz c0), (15, .int .i64 s10.2.1), (16, .int .i64 s10.2.2), (17, .func (.func 116) #[] #[]), (18, .tuple #[])] : KV)) hO35.symm) ?_
   refine qE (qs (qk (qR (qp 2 [0, 1, 2, 6, 7, 8] [(0, .slice A0 y28.length c0), (1, .int .i64 a1), (2, .func (.func 116) #[] #[]), (6, .int .i64 20), (7, .int .i64 s10.2.2), (8, .int .i64 s10.2.2)] (qE (qs (qR (qp 4 [0, 1, 2, 6, 7, 8] [(0, .slice A0 y28.length c0), (1, .int .i64 a1), (2, .func (.func 116) #[] #[]), (6, .int .i64 20), (7, .int .i64 s10.2.2), (8, .int .i64 (IntKind.wrap .i64 (s10.2.2 + 20)))] (qE (qn ?_))))))))))
   obtain rfl := some_inj hb12
   exact ge_round fun t ht => ⟨C33, hO34, (Eq.trans hO35 hL16), (Imm.trans hI13 hI32), rfl, ht.pick (l := [0, 1, 2, 6, 7, 8]) (by kernel_rfl)⟩
  ·have hb12 := cond_f hc27 hb12
   refine qe (qf ?_)
   obtain rfl := some_inj hb12
   refine ge_round_out (fun hrr => ?_) (by intro h; cases h)
   obtain rfl := hrr
   refine qh ?_
   exact ge_mid fun t ht => ⟨C14, hO15, hL16, hI13, rfl, ht.pick (l := [0, 1, 2, 6, 7]) (by kernel_rfl)⟩
 ·rintro t I24 L' ⟨C20, hO21, hL22, hI19, rfl, hK23⟩
  refine ge_at hK23 ?_
  refine qs (qk (qR (qp 4 [0, 1, 2, 6, 23, 24, 25, 26] [(0, .slice A0 r8.1.length c0), (1, .int .i64 a1), (2, .func (.func 116) #[] #[]), (6, .int .i64 20), (23, .slice A0 r8.1.length c0), (24, .int .i64 r8.2), (25, .int .i64 a1), (26, .func (.func 116) #[] #[])] ?_)))
  obtain ⟨y36, hx37, hr⟩ := bind_some hr
  refine gl_call (by kernel_rfl) (slices_insertionSortCmpFunc_walk (r := y36) (A0 := A0) (c0 := c0) (C0 := C20) (a0 := r8.1) hO21 hx37 _) ?_
  rintro v I38 L39 hI40 ⟨C41, hO42, hO43, rfl, rfl⟩
  refine gl_pick [0, 1, 2, 6, 23, 24, 25, 26, 27] (K' := [(0, .slice A0 r8.1.length c0), (1, .int .i64 a1), (2, .func (.func 116) #[] #[]), (6, .int .i64 20), (23, .slice A0 r8.1.length c0), (24, .int .i64 r8.2), (25, .int .i64 a1), (26, .func (.func 116) #[] #[]), (27, .tuple #[])]) (by kernel_rfl) ?_
  refine gl_kv (congrArg (fun (zz : Nat) => ([(0, .slice A0 zz c0), (1, .int .i64 a1), (2, .func (.func 116) #[] #[]), (6, .int .i64 20), (23, .slice A0 zz c0), (24, .int .i64 r8.2), (25, .int .i64 a1), (26, .func (.func 116) #[] #[]), (27, .tuple #[])] : KV)) hO43.symm) ?_
  refine qE (qs ?_)
  obtain ⟨r51, hl52, hr⟩ := bind_some hr
  refine gk_join (fun t I' L' => ∃ C63, OwnS kS49 50 I' A0 c0 r51 C63 ∧ (r51.length = a0.length) ∧ I38 ≤ I' ∧ C63 ++ L = L' ∧ Knows 63 [(0, .slice A0 r51.length c0)] t) ?_ ?_
  ·refine qb (qq [0, 1, 2, 6] [(0, .slice A0 y36.length c0), (1, .int .i64 a1), (2, .func (.func 116) #[] #[]), (6, .int .i64 20)] ?_)
   intro t hK
   refine gc_loop (slices_stableCmpFunc_l68 a1) (fun s53 t I' L' => ∃ C57, OwnS kS49 50 I' A0 c0 s53.1 C57 ∧ (s53.1.length = a0.length) ∧ I38 ≤ I' ∧ C57 ++ L = L' ∧ Knows 63 [(0, .slice A0 s53.1.length c0), (1, .int .i64 a1), (2, .func (.func 116) #[] #[]), (6, .int .i64 s53.2)] t) (by kernel_rfl) ?_ hl52 ⟨C41, hO42, (Eq.trans hO43 hL22), (Imm.refl _), rfl, hK⟩
   rintro s53 o54 t I61 L' hb55 ⟨C57, hO58, hL59, hI56, rfl, hK60⟩
   unfold slices_stableCmpFunc_l68 at hb55
   refine gk_at hK60 ?_
   refine qk (qk (qR (qp 3 [0, 1, 2, 6, 30] [(0, .slice A0 s53.1.length c0), (1, .int .i64 a1), (2, .func (.func 116) #[] #[]), (6, .int .i64 s53.2), (30, .bool (decide (s53.2 < a1)))] (qE (qs ?_)))))
   refine gk_cond (b := (decide (s53.2 < a1))) (by kernel_rfl) (by kernel_rfl) (fun hc70 => ?_) (fun hc70 => ?_)
   ·have hb55 := cond_t hc70 hb55
    refine qx (qs (qb (qk (qR (qp 4 [0, 1, 2, 6, 7, 8] [(0, .slice A0 s53.1.length c0), (1, .int .i64 a1), (2, .func (.func 116) #[] #[]), (6, .int .i64 s53.2), (7, .int .i64 0), (8, .int .i64 (IntKind.wrap .i64 (2 * s53.2)))] (qE (qs (qk ?_))))))))
    obtain ⟨r78, hl79, hb55⟩ := bind_some hb55
    refine gk_join (fun t I' L' => ∃ C90, OwnS kS49 50 I' A0 c0 r78.1 C90 ∧ (r78.1.length = a0.length) ∧ I61 ≤ I' ∧ C90 ++ L = L' ∧ Knows 63 [(0, .slice A0 r78.1.length c0), (1, .int .i64 a1), (2, .func (.func 116) #[] #[]), (6, .int .i64 s53.2), (7, .int .i64 r78.2)] t) ?_ ?_
    ·refine qb (qq [0, 1, 2, 6, 7, 8] [(0, .slice A0 s53.1.length c0), (1, .int .i64 a1), (2, .func (.func 116) #[] #[]), (6, .int .i64 s53.2), (7, .int .i64 0), (8, .int .i64 (IntKind.wrap .i64 (2 * s53.2)))] ?_)
     intro t hK
     refine gc_loop (slices_stableCmpFunc_l95 a1 s53) (fun s80 t I' L' => ∃ C84, OwnS kS49 50 I' A0 c0 s80.1 C84 ∧ (s80.1.length = a0.length) ∧ I61 ≤ I' ∧ C84 ++ L = L' ∧ Knows 63 [(0, .slice A0 s80.1.length c0), (1, .int .i64 a1), (2, .func (.func 116) #[] #[]), (6, .int .i64 s53.2), (7, .int .i64 s80.2.1), (8, .int .i64 s80.2.2)] t) (by kernel_rfl) ?_ hl79 ⟨C57, hO58, hL59, (Imm.refl _), rfl, hK⟩
     rintro s80 o81 t I88 L' hb82 ⟨C84, hO85, hL86, hI83, rfl, hK87⟩
     unfold slices_stableCmpFunc_l95 at hb82
     refine gk_at hK87 ?_
     refine qk (qk (qR (qp 3 [0, 1, 2, 6, 7, 8, 35] [(0, .slice A0 s80.1.length c0), (1, .int .i64 a1), (2, .func (.func 116) #[] #[]), (6, .int .i64 s53.2), (7, .int .i64 s80.2.1), (8, .int .i64 s80.2.2), (35, .bool (decide (s80.2.2 ≤ a1)))] (qE (qs ?_)))))
     refine gk_cond (b := (decide (s80.2.2 ≤ a1))) (by kernel_rfl) (by kernel_rfl) (fun hc97 => ?_) (fun hc97 => ?_)
     ·have hb82 := cond_t hc97 hb82
      refine qx (qs (qb (qk (qR (qp 7 [0, 1, 2, 6, 8, 36, 37, 40, 41, 42] [(0, .slice A0 s80.1.length c0), (1, .int .i64 a1), (2, .func (.func 116) #[] #[]), (6, .int .i64 s53.2), (8, .int .i64 s80.2.2), (36, .slice A0 s80.1.length c0), (37, .int .i64 s80.2.1), (40, .int .i64 (IntKind.wrap .i64 (s80.2.1 + s53.2))), (41, .int .i64 s80.2.2), (42, .func (.func 116) #[] #[])] ?_)))))
      obtain ⟨y98, hx99, hb82⟩ := bind_some hb82
      refine gl_call (by kernel_rfl) (slices_symMergeCmpFunc_walk (r := y98) (A0 := A0) (c0 := c0) (C0 := C84) (a0 := s80.1) hO85 hx99 _) ?_
      rintro v I100 L101 hI102 ⟨C103, hO104, hO105, rfl, rfl⟩
      refine gl_pick [0, 1, 2, 6, 8, 36, 37, 40, 41, 42, 43] (K' := [(0, .slice A0 s80.1.length c0), (1, .int .i64 a1), (2, .func (.func 116) #[] #[]), (6, .int .i64 s53.2), (8, .int .i64 s80.2.2), (36, .slice A0 s80.1.length c0), (37, .int .i64 s80.2.1), (40, .int .i64 (IntKind.wrap .i64 (s80.2.1 + s53.2))), (41, .int .i64 s80.2.2), (42, .func (.func 116) #[] #[]), (43, .tuple #[])]) (by kernel_rfl) ?_
      refine gl_kv (congrArg (fun (zz : Nat) => ([(0, .slice A0 zz c0), (1, .int .i64 a1), (2, .func (.func 116) #[] #[]), (6, .int .i64 s53.2), (8, .int .i64 s80.2.2), (36, .slice A0 zz c0), (37, .int .i64 s80.2.1), (40, .int .i64 (IntKind.wrap .i64 (s80.2.1 + s53.2))), (41, .int .i64 s80.2.2), (42, .func (.func 116) #[] #[]), (43, .tuple #[])] : KV)) hO105.symm) ?_
      refine qE (qs (qk (qR (qp 2 [0, 1, 2, 6, 7, 8] [(0, .slice A0 y98.length c0), (1, .int .i64 a1), (2, .func (.func 116) #[] #[]), (6, .int .i64 s53.2), (7, .int .i64 s80.2.2), (8, .int .i64 s80.2.2)] (qE (qs (qR (qp 5 [0, 1, 2, 6, 7, 8] [(0, .slice A0 y98.length c0), (1, .int .i64 a1), (2, .func (.func 116) #[] #[]), (6, .int .i64 s53.2), (7, .int .i64 s80.2.2), (8, .int .i64 (IntKind.wrap .i64 (s80.2.2 + (IntKind.wrap .i64 (2 * s53.2)))))] (qE (qn ?_))))))))))
      obtain rfl := some_inj hb82
      exact ge_round fun t ht => ⟨C103, hO104, (Eq.trans hO105 hL86), (Imm.trans hI83 hI102), rfl, ht.pick (l := [0, 1, 2, 6, 7, 8]) (by kernel_rfl)⟩
     ·have hb82 := cond_f hc97 hb82
      refine qe (qf ?_)
      obtain rfl := some_inj hb82
      refine ge_round_out (fun hrr => ?_) (by intro h; cases h)
      obtain rfl := hrr
      refine qh ?_
      exact ge_mid fun t ht => ⟨C84, hO85, hL86, hI83, rfl, ht.pick (l := [0, 1, 2, 6, 7]) (by kernel_rfl)⟩
    ·rintro t I94 L' ⟨C90, hO91, hL92, hI89, rfl, hK93⟩
     refine ge_at hK93 ?_
     refine qs (qk (qk (qR (qp 4 [0, 1, 2, 6, 7, 9] [(0, .slice A0 r78.1.length c0), (1, .int .i64 a1), (2, .func (.func 116) #[] #[]), (6, .int .i64 s53.2), (7, .int .i64 r78.2), (9, .int .i64 (IntKind.wrap .i64 (r78.2 + s53.2)))] (qE (qs (qk (qR (qp 3 [0, 1, 2, 6, 7, 9, 54] [(0, .slice A0 r78.1.length c0), (1, .int .i64 a1), (2, .func (.func 116) #[] #[]), (6, .int .i64 s53.2), (7, .int .i64 r78.2), (9, .int .i64 (IntKind.wrap .i64 (r78.2 + s53.2))), (54, .bool (decide ((IntKind.wrap .i64 (r78.2 + s53.2)) < a1)))] (qE (qs ?_)))))))))))
     obtain ⟨j106, hj107, hb55⟩ := bind_some hb55
     refine gk_join (fun t I' L' => ∃ C109, OwnS kS49 50 I' A0 c0 j106 C109 ∧ (j106.length = a0.length) ∧ I94 ≤ I' ∧ C109 ++ L = L' ∧ Knows 63 [(0, .slice A0 j106.length c0), (1, .int .i64 a1), (2, .func (.func 116) #[] #[]), (6, .int .i64 s53.2)] t) ?_ ?_
     ·refine gk_cond (b := (decide ((IntKind.wrap .i64 (r78.2 + s53.2)) < a1))) (by kernel_rfl) (by kernel_rfl) (fun hc114 => ?_) (fun hc114 => ?_)
      ·have hj107 := cond_t hc114 hj107
       refine qR (qp 5 [0, 1, 2, 6, 55, 56, 57, 58, 59] [(0, .slice A0 r78.1.length c0), (1, .int .i64 a1), (2, .func (.func 116) #[] #[]), (6, .int .i64 s53.2), (55, .slice A0 r78.1.length c0), (56, .int .i64 r78.2), (57, .int .i64 (IntKind.wrap .i64 (r78.2 + s53.2))), (58, .int .i64 a1), (59, .func (.func 116) #[] #[])] ?_)
       obtain ⟨y115, hx116, hj107⟩ := bind_some hj107
       refine gl_call (by kernel_rfl) (slices_symMergeCmpFunc_walk (r := y115) (A0 := A0) (c0 := c0) (C0 := C90) (a0 := r78.1) hO91 hx116 _) ?_
       rintro v I117 L118 hI119 ⟨C120, hO121, hO122, rfl, rfl⟩
       refine gl_pick [0, 1, 2, 6, 55, 56, 57, 58, 59, 60] (K' := [(0, .slice A0 r78.1.length c0), (1, .int .i64 a1), (2, .func (.func 116) #[] #[]), (6, .int .i64 s53.2), (55, .slice A0 r78.1.length c0), (56, .int .i64 r78.2), (57, .int .i64 (IntKind.wrap .i64 (r78.2 + s53.2))), (58, .int .i64 a1), (59, .func (.func 116) #[] #[]), (60, .tuple #[])]) (by kernel_rfl) ?_
       refine gl_kv (congrArg (fun (zz : Nat) => ([(0, .slice A0 zz c0), (1, .int .i64 a1), (2, .func (.func 116) #[] #[]), (6, .int .i64 s53.2), (55, .slice A0 zz c0), (56, .int .i64 r78.2), (57, .int .i64 (IntKind.wrap .i64 (r78.2 + s53.2))), (58, .int .i64 a1), (59, .func (.func 116) #[] #[]), (60, .tuple #[])] : KV)) hO122.symm) ?_
       refine qE ?_
       obtain rfl := some_inj hj107
       exact ge_mid fun t ht => ⟨C120, hO121, (Eq.trans hO122 hL92), hI119, rfl, ht.pick (l := [0, 1, 2, 6]) (by kernel_rfl)⟩
      ·have hj107 := cond_f hc114 hj107
       refine qx ?_
       obtain rfl := some_inj hj107
       exact ge_mid fun t ht => ⟨C90, hO91, hL92, (Imm.refl _), rfl, ht.pick (l := [0, 1, 2, 6]) (by kernel_rfl)⟩
     ·rintro t I113 L' ⟨C109, hO110, hL111, hI108, rfl, hK112⟩
      refine ge_at hK112 ?_
      refine qs (qR (qp 3 [0, 1, 2, 6] [(0, .slice A0 j106.length c0), (1, .int .i64 a1), (2, .func (.func 116) #[] #[]), (6, .int .i64 (IntKind.wrap .i64 (s53.2 * 2)))] (qE (qn ?_))))
      obtain rfl := some_inj hb55
      exact ge_round fun t ht => ⟨C109, hO110, hL111, (Imm.trans (Imm.trans hI56 hI89) hI108), rfl, ht.pick (l := [0, 1, 2, 6]) (by kernel_rfl)⟩
   ·have hb55 := cond_f hc70 hb55
    refine qe (qf ?_)
    obtain rfl := some_inj hb55
    refine ge_round_out (fun hrr => ?_) (by intro h; cases h)
    obtain rfl := hrr
    refine qh ?_
    exact ge_mid fun t ht => ⟨C57, hO58, hL59, hI56, rfl, ht.pick (l := [0]) (by kernel_rfl)⟩
  ·rintro t I67 L' ⟨C63, hO64, hL65, hI62, rfl, hK66⟩
   refine ge_at hK66 ?_
   obtain rfl := some_inj hr
   exact ge_result trivial ResOk.nil (Imm.trans (Imm.trans hI19 hI40) hI62) ⟨C63, hO64, hL65, rfl, rfl⟩
/-! 115 slices_SortStableFunc ('inp', ('cfn', 116)) -/
noncomputable def slices_SortStableFunc (a0 : List S49) : Option (List S49) :=
 Option.bind (slices_stableCmpFunc a0 (a0.length : Int)) fun (y1 : (List S49)) =>
 some y1
theorem slices_SortStableFunc_walk {a0 : List S49} {A0 : Option Addr} {c0 : Nat} {C0 : Own} {I : Imm} {r : (List S49)} (hO0 : OwnS kS49 50 I A0 c0 a0 C0) (hr : slices_SortStableFunc a0 = some r) (L : Own) :
  CallsTo Tryz.prog 115 #[.slice A0 a0.length c0, .func (.func 116) #[] #[]] I (C0 ++ L) (fun v I' L' => ∃ C0, OwnS kS49 50 I' A0 c0 r C0 ∧ r.length = a0.length ∧ v = .tuple #[] ∧ C0 ++ L = L') := by
 unfold slices_SortStableFunc at hr
 refine callsTo_body (N := 9) Tryz.func115 (by kernel_rfl) (by kernel_rfl) (by kernel_rfl) ?_
 refine qq [0, 1] [(0, .slice A0 a0.length c0), (1, .func (.func 116) #[] #[])] (qR (qp 4 [0, 4, 6, 7] [(0, .slice A0 a0.length c0), (4, .slice A0 a0.length c0), (6, .int .i64 (a0.length : Int)), (7, .func (.func 116) #[] #[])] ?_))
 obtain ⟨y1, hx2, hr⟩ := bind_some hr
 refine gl_call (by kernel_rfl) (slices_stableCmpFunc_walk (r := y1) (A0 := A0) (c0 := c0) (C0 := C0) (a0 := a0) hO0 hx2 _) ?_
 rintro v I3 L4 hI5 ⟨C6, hO7, hO8, rfl, rfl⟩
 refine gl_pick [0, 4, 6, 7, 8] (K' := [(0, .slice A0 a0.length c0), (4, .slice A0 a0.length c0), (6, .int .i64 (a0.length : Int)), (7, .func (.func 116) #[] #[]), (8, .tuple #[])]) (by kernel_rfl) ?_
 refine gl_kv (congrArg (fun (zz : Nat) => ([(0, .slice A0 zz c0), (4, .slice A0 zz c0), (6, .int .i64 (a0.length : Int)), (7, .func (.func 116) #[] #[]), (8, .tuple #[])] : KV)) hO8.symm) ?_
 refine qE ?_
 obtain rfl := some_inj hr
 exact ge_result trivial ResOk.nil hI5 ⟨C6, hO7, (Eq.trans hO8 rfl), rfl, rfl⟩
/-! 72 labels_sorted  -/
noncomputable def labels_sorted_l45 (y10 : (List S49)) : ((List S49) × Bool × Int) → Option (((List S49) × Bool × Int) ⊕ ((List S49) × Bool)) := fun s28 =>
 bif (decide (s28.2.2 < (y10.length : Int))) then
 (Option.bind (ix y10 s28.2.2) fun (x48 : S49) =>
  Option.bind (bif s28.2.1 then
   (some true)
   else
   (bif (decide (s28.2.2 > 0)) then
    (Option.bind (ix y10 (IntKind.wrap .i64 (s28.2.2 - 1))) fun (x65 : S49) =>
     some (x65.f0.toList == x48.f0.toList))
    else
    (some false))) fun (j58 : Bool) =>
  Option.bind (bif (!(x48.f1.toList == (⟨#[]⟩ : ByteArray).toList)) then
   (Option.bind (app s28.1 [x48]) fun (zs88 : List S49) =>
    some zs88)
   else
   (some s28.1)) fun (j74 : (List S49)) =>
  some (Sum.inl (j74, j58, (IntKind.wrap .i64 (s28.2.2 + 1)))))
 else
 (some (Sum.inr (s28.1, s28.2.1)))
noncomputable def labels_sorted (a0 : List S49) : Option ((List S49) × Bool) :=
 Option.bind (labels_own a0) fun (y1 : (List S49)) =>
 Option.bind (slices_SortStableFunc y1) fun (y10 : (List S49)) =>
 Option.bind (loopO (labels_sorted_l45 y10) ([], false, 0)) fun (r26 : (List S49) × Bool) =>
 some (r26.1, r26.2)
theorem labels_sorted_walk {a0 : List S49} {A0_0 : Option Addr} {n0_0 : Nat} {I : Imm} {r : (List S49) × Bool}  (hf0_0 : RepS kS49 I A0_0 n0_0 a0) (hr : labels_sorted a0 = some r) (L : Own) :
  CallsTo Tryz.prog 72 #[.slice A0_0 a0.length n0_0] I L (fun v I' L' => ∃ A0 c0 C0, OwnS kS49 50 I' A0 c0 r.1 C0 ∧ v = .tuple #[.slice A0 r.1.length c0, .bool r.2] ∧ C0 ++ L = L') := by
 unfold labels_sorted at hr
 refine callsTo_body (N := 44) Tryz.func72 (by kernel_rfl) (by kernel_rfl) (by kernel_rfl) ?_
 refine qq [0] [(0, .slice A0_0 a0.length n0_0)] (qk (qR (qp 2 [0, 2, 3] [(0, .slice A0_0 a0.length n0_0), (2, .slice none 0 0), (3, .bool false)] (qE (qs (qk (qR (qp 1 [2, 3, 7] [(2, .slice none 0 0), (3, .bool false), (7, .slice A0_0 a0.length n0_0)] ?_))))))))
 obtain ⟨y1, hx2, hr⟩ := bind_some hr
 refine gl_call (by kernel_rfl) (labels_own_walk (r := y1) hf0_0 hx2 _) ?_
 rintro v I3 L4 hI5 ⟨A6, c7, C8, hO9, rfl, rfl⟩
 refine qp 1 [2, 3, 4] [(2, .slice none 0 0), (3, .bool false), (4, .slice A6 y1.length c7)] (qE (qs (qk (qR (qp 1 [2, 3, 4, 9] [(2, .slice none 0 0), (3, .bool false), (4, .slice A6 y1.length c7), (9, .slice A6 y1.length c7)] ?_)))))
 obtain ⟨y10, hx11, hr⟩ := bind_some hr
 refine gl_call (by kernel_rfl) (slices_SortStableFunc_walk (r := y10) (A0 := A6) (c0 := c7) (C0 := C8) (a0 := y1) hO9 hx11 _) ?_
 rintro v I12 L13 hI14 ⟨C15, hO16, hO17, rfl, rfl⟩
 refine gl_pick [2, 3, 4, 9, 10] (K' := [(2, .slice none 0 0), (3, .bool false), (4, .slice A6 y1.length c7), (9, .slice A6 y1.length c7), (10, .tuple #[])]) (by kernel_rfl) ?_
 refine gl_kv (congrArg (fun (zz : Nat) => ([(2, .slice none 0 0), (3, .bool false), (4, .slice A6 zz c7), (9, .slice A6 zz c7), (10, .tuple #[])] : KV)) hO17.symm) ?_
 refine qE (qs (qk (qk (qR (qp 3 [2, 3, 4, 11, 12, 13] [(2, .slice none 0 0), (3, .bool false), (4, .slice A6 y10.length c7), (11, .slice A6 y10.length c7), (12, .int .i64 (y10.length : Int)), (13, .int .i64 0)] (qE (qs ?_)))))))
 obtain ⟨r26, hl27, hr⟩ := bind_some hr
 refine gk_join (fun t I' L' => ∃ A39 n40 C41, OwnS kS49 50 I' A39 n40 r26.1 C41 ∧ I12 ≤ I' ∧ C41 ++ L = L' ∧ Knows 44 [(2, .slice A39 r26.1.length n40), (3, .bool r26.2)] t) ?_ ?_
 ·refine qb (qq [2, 3, 4, 11, 12, 13] [(2, .slice none 0 0), (3, .bool false), (4, .slice A6 y10.length c7), (11, .slice A6 y10.length c7), (12, .int .i64 (y10.length : Int)), (13, .int .i64 0)] ?_)
  intro t hK
  refine gc_loop (labels_sorted_l45 y10) (fun s28 t I' L' => ∃ A32 n33 C34, OwnS kS49 50 I' A32 n33 s28.1 C34 ∧ I12 ≤ I' ∧ C34 ++ (C15 ++ L) = L' ∧ Knows 44 [(2, .slice A32 s28.1.length n33), (3, .bool s28.2.1), (4, .slice A6 y10.length c7), (11, .slice A6 y10.length c7), (12, .int .i64 (y10.length : Int)), (13, .int .i64 s28.2.2)] t) (by kernel_rfl) ?_ hl27 ⟨none, 0, [], OwnS.nil _ _ _ _, (Imm.refl _), rfl, hK⟩
  rintro s28 o29 t I37 L' hb30 ⟨A32, n33, C34, hO35, hI31, rfl, hK36⟩
  unfold labels_sorted_l45 at hb30
  refine gk_at hK36 ?_
  refine qk (qR (qp 1 [2, 3, 4, 11, 12, 13, 14] [(2, .slice A32 s28.1.length n33), (3, .bool s28.2.1), (4, .slice A6 y10.length c7), (11, .slice A6 y10.length c7), (12, .int .i64 (y10.length : Int)), (13, .int .i64 s28.2.2), (14, .bool (decide (s28.2.2 < (y10.length : Int))))] (qE (qs (qk ?_)))))
  refine gk_cond (b := (decide (s28.2.2 < (y10.length : Int)))) (by kernel_rfl) (by kernel_rfl) (fun hc47 => ?_) (fun hc47 => ?_)
  ·have hb30 := cond_t hc47 hb30
   refine qx (qs (qk (qb (qk (qR (qp 1 [2, 3, 4, 11, 12, 13, 15] [(2, .slice A32 s28.1.length n33), (3, .bool s28.2.1), (4, .slice A6 y10.length c7), (11, .slice A6 y10.length c7), (12, .int .i64 (y10.length : Int)), (13, .int .i64 s28.2.2), (15, .int .i64 s28.2.2)] ?_))))))
   obtain ⟨x48, hx49, hb30⟩ := bind_some hb30
   refine gl_indexAddrW (d := kS49) (c := c7) (T' := 22) (e := 50) (xs := (.tmp 11)) (xi := (.tmp 13)) (kd := .i64) hx49 (hO16.mono hI31) (Upd.app _ (Upd.selfC _ _)) (by kernel_rfl) (by kernel_rfl) (by kernel_rfl) (by kernel_rfl) (by kernel_rfl) (fun p50 cs51 hR52 hA53 hp56 => ?_)
   obtain rfl := kS49_open hR52
   refine gl_loadOA (T' := 50) (xp := (.tmp 16)) (p := p50) (cs := [.string x48.f0, .string x48.f1]) (by kernel_rfl) (by kernel_rfl) (by kernel_rfl) (by kernel_rfl) (hA53.take 2) ?_
   refine gl_alloc (T' := 50) (cs := #[.string (⟨#[]⟩ : ByteArray), .string (⟨#[]⟩ : ByteArray)]) (by kernel_rfl) (by kernel_rfl) (by kernel_rfl) (fun g57 => ?_)
   refine qp 1 [2, 3, 4, 5, 6, 11, 12, 13, 17] [(2, .slice A32 s28.1.length n33), (3, .bool s28.2.1), (4, .slice A6 y10.length c7), (5, .int .i64 s28.2.2), (6, .pointer (some ⟨g57, 0, none⟩)), (11, .slice A6 y10.length c7), (12, .int .i64 (y10.length : Int)), (13, .int .i64 s28.2.2), (17, .agg #[.string x48.f0, .string x48.f1])] ?_
   refine gl_storeB (T' := 50) (xp := (.tmp 6)) (xv := (.tmp 17)) (v := .agg #[.string x48.f0, .string x48.f1]) (g := g57) (off := 0) (cs := #[.string (⟨#[]⟩ : ByteArray), .string (⟨#[]⟩ : ByteArray)]) (cs' := #[.string x48.f0, .string x48.f1]) (by kernel_rfl) (by kernel_rfl) (by kernel_rfl) (by kernel_rfl) (by kernel_rfl) (Upd.set _ _ _ _) ?_ (by kernel_rfl)
   refine qE (qs (qk ?_))
   obtain ⟨j58, hj59, hb30⟩ := bind_some hb30
   refine gk_join (fun t I' L' => I37 ≤ I' ∧ (g57, .cells #[.string x48.f0, .string x48.f1] 50) :: (C34 ++ (C15 ++ L)) = L' ∧ Knows 44 [(2, .slice A32 s28.1.length n33), (3, .bool j58), (4, .slice A6 y10.length c7), (6, .pointer (some ⟨g57, 0, none⟩)), (11, .slice A6 y10.length c7), (12, .int .i64 (y10.length : Int)), (13, .int .i64 s28.2.2)] t) ?_ ?_
   ·refine gk_draw 17 (rng 0 17) (C15 ++ [(g57, .cells #[.string x48.f0, .string x48.f1] 50)]) (fma ⟨fun q hq => (List.mem_cons_of_mem _ (mar (mal hq))), (fmc ⟨mcs, nim⟩)⟩) (by kernel_rfl) (by kernel_rfl) (by kernel_rfl) ?_ (by kernel_rfl)
    refine dp 2 [2, 3, 4, 5, 6, 11, 12, 13, 19] [(2, .slice A32 s28.1.length n33), (3, .bool s28.2.1), (4, .slice A6 y10.length c7), (5, .int .i64 s28.2.2), (6, .pointer (some ⟨g57, 0, none⟩)), (11, .slice A6 y10.length c7), (12, .int .i64 (y10.length : Int)), (13, .int .i64 s28.2.2), (19, .bool s28.2.1)] (rng 2 15) (CC.refl (fma ⟨fun q hq => (List.mem_cons_of_mem _ (mar (mal hq))), (fmc ⟨mcs, nim⟩)⟩)) ?_
    refine gd_case 19 (b := s28.2.1) (by kernel_rfl) (fun hc63 => ?_) (fun hc63 => ?_)
    ·have hj59 := cond_t hc63 hj59
     refine dp 15 [2, 3, 4, 6, 11, 12, 13] [(2, .slice A32 s28.1.length n33), (3, .bool true), (4, .slice A6 y10.length c7), (6, .pointer (some ⟨g57, 0, none⟩)), (11, .slice A6 y10.length c7), (12, .int .i64 (y10.length : Int)), (13, .int .i64 s28.2.2)] [] (CC.refl (fma ⟨fun q hq => (List.mem_cons_of_mem _ (mar (mal hq))), (fmc ⟨mcs, nim⟩)⟩)) ?_
     refine gd_done ?_
     refine qE ?_
     obtain rfl := some_inj hj59
     exact ge_mid fun t ht => ⟨(Imm.refl _), rfl, ht.pick (l := [2, 3, 4, 6, 11, 12, 13]) (by kernel_rfl)⟩
    ·have hj59 := cond_f hc63 hj59
     refine dp 3 [2, 3, 4, 5, 6, 11, 12, 13, 19, 22] [(2, .slice A32 s28.1.length n33), (3, .bool s28.2.1), (4, .slice A6 y10.length c7), (5, .int .i64 s28.2.2), (6, .pointer (some ⟨g57, 0, none⟩)), (11, .slice A6 y10.length c7), (12, .int .i64 (y10.length : Int)), (13, .int .i64 s28.2.2), (19, .bool false), (22, .bool (decide (s28.2.2 > 0)))] (rng 5 12) (CC.refl (fma ⟨fun q hq => (List.mem_cons_of_mem _ (mar (mal hq))), (fmc ⟨mcs, nim⟩)⟩)) ?_
     refine gd_case 22 (b := (decide (s28.2.2 > 0))) (by kernel_rfl) (fun hc64 => ?_) (fun hc64 => ?_)
     ·have hj59 := cond_t hc64 hj59
      refine dp 3 [2, 3, 4, 6, 11, 12, 13, 19, 22, 23, 25] [(2, .slice A32 s28.1.length n33), (3, .bool s28.2.1), (4, .slice A6 y10.length c7), (6, .pointer (some ⟨g57, 0, none⟩)), (11, .slice A6 y10.length c7), (12, .int .i64 (y10.length : Int)), (13, .int .i64 s28.2.2), (19, .bool false), (22, .bool true), (23, .slice A6 y10.length c7), (25, .int .i64 (IntKind.wrap .i64 (s28.2.2 - 1)))] (rng 8 9) (CC.refl (fma ⟨fun q hq => (List.mem_cons_of_mem _ (mar (mal hq))), (fmc ⟨mcs, nim⟩)⟩)) ?_
      obtain ⟨x65, hx66, hj59⟩ := bind_some hj59
      obtain ⟨p67, cs68, hR69, hA70, ha71, hg73⟩ := OwnS.ixAtG hx66 (hO16.mono hI31)
      have hi72 := ix_some hx66
      obtain rfl := kS49_open hR69
      refine gd_q (v := .pointer (some p67)) (by kernel_rfl) (by kernel_rfl) (CC.refl (fma ⟨fun q hq => (List.mem_cons_of_mem _ (mar (mal hq))), (fmc ⟨mcs, nim⟩)⟩)) (fun I' L' T hC kk => gl_indexAddrF (c := c7) (T' := 22) (e := 50) (xs := (.tmp 23)) (xi := (.tmp 25)) (kd := .i64) ha71 hi72.1 hi72.2.1 (by kernel_rfl) (by kernel_rfl) (by kernel_rfl) (by kernel_rfl) (by kernel_rfl) kk) ?_
      refine dp 1 [2, 3, 4, 6, 11, 12, 13, 19, 22, 27] [(2, .slice A32 s28.1.length n33), (3, .bool s28.2.1), (4, .slice A6 y10.length c7), (6, .pointer (some ⟨g57, 0, none⟩)), (11, .slice A6 y10.length c7), (12, .int .i64 (y10.length : Int)), (13, .int .i64 s28.2.2), (19, .bool false), (22, .bool true), (27, .pointer (some (p67.add 0)))] (rng 10 7) (CC.refl (fma ⟨fun q hq => (List.mem_cons_of_mem _ (mar (mal hq))), (fmc ⟨mcs, nim⟩)⟩)) ?_
      refine gd_q (v := .string x65.f0) (by kernel_rfl) (by kernel_rfl) (CC.refl (fma ⟨fun q hq => (List.mem_cons_of_mem _ (mar (mal hq))), (fmc ⟨mcs, nim⟩)⟩)) (fun I' L' T hC kk => gl_loadO (T' := 9) (xp := (.tmp 27)) (p := (p67.add 0)) (c := .string x65.f0) (n := 1) (by kernel_rfl) (by kernel_rfl) (by kernel_rfl) (by kernel_rfl) ((fun I' L' h => (hA70 I' L' h).drop 0) _ _ (fun q hq => hC.sub _ (mal hq))) kk) ?_
      refine dp 1 [2, 3, 4, 6, 11, 12, 13, 19, 22, 28, 29] [(2, .slice A32 s28.1.length n33), (3, .bool s28.2.1), (4, .slice A6 y10.length c7), (6, .pointer (some ⟨g57, 0, none⟩)), (11, .slice A6 y10.length c7), (12, .int .i64 (y10.length : Int)), (13, .int .i64 s28.2.2), (19, .bool false), (22, .bool true), (28, .string x65.f0), (29, .pointer (some ⟨g57, 0, none⟩))] (rng 12 5) (CC.refl (fma ⟨fun q hq => (List.mem_cons_of_mem _ (mar (mal hq))), (fmc ⟨mcs, nim⟩)⟩)) ?_
      refine gd_q (v := .string x48.f0) (by kernel_rfl) (by kernel_rfl) (CC.refl (fma ⟨fun q hq => (List.mem_cons_of_mem _ (mar (mal hq))), (fmc ⟨mcs, nim⟩)⟩)) (fun I' L' T hC kk => gl_loadB (T' := 9) (xp := (.tmp 29)) (v := .string x48.f0) (g := g57) (off := 0) (cs := #[.string x48.f0, .string x48.f1]) (e := 50) (fz := (0, 0)) (by kernel_rfl) (by kernel_rfl) (by kernel_rfl) (hC.sub _ (mar mcs)) (by kernel_rfl) kk) ?_
      refine dp 4 [2, 3, 4, 6, 11, 12, 13] [(2, .slice A32 s28.1.length n33), (3, .bool (x65.f0.toList == x48.f0.toList)), (4, .slice A6 y10.length c7), (6, .pointer (some ⟨g57, 0, none⟩)), (11, .slice A6 y10.length c7), (12, .int .i64 (y10.length : Int)), (13, .int .i64 s28.2.2)] [] (CC.refl (fma ⟨fun q hq => (List.mem_cons_of_mem _ (mar (mal hq))), (fmc ⟨mcs, nim⟩)⟩)) ?_
      refine gd_done ?_
      refine qE ?_
      obtain rfl := some_inj hj59
      exact ge_mid fun t ht => ⟨(Imm.refl _), rfl, ht.pick (l := [2, 3, 4, 6, 11, 12, 13]) (by kernel_rfl)⟩
     ·have hj59 := cond_f hc64 hj59
      refine dp 12 [2, 3, 4, 6, 11, 12, 13] [(2, .slice A32 s28.1.length n33), (3, .bool false), (4, .slice A6 y10.length c7), (6, .pointer (some ⟨g57, 0, none⟩)), (11, .slice A6 y10.length c7), (12, .int .i64 (y10.length : Int)), (13, .int .i64 s28.2.2)] [] (CC.refl (fma ⟨fun q hq => (List.mem_cons_of_mem _ (mar (mal hq))), (fmc ⟨mcs, nim⟩)⟩)) ?_
      refine gd_done ?_
      refine qE ?_
      obtain rfl := some_inj hj59
      exact ge_mid fun t ht => ⟨(Imm.refl _), rfl, ht.pick (l := [2, 3, 4, 6, 11, 12, 13]) (by kernel_rfl)⟩
   ·rintro t I62 L' ⟨hI60, rfl, hK61⟩
    refine ge_at hK61 ?_
    refine qs (qk (qR (qp 1 [2, 3, 4, 6, 11, 12, 13, 34] [(2, .slice A32 s28.1.length n33), (3, .bool j58), (4, .slice A6 y10.length c7), (6, .pointer (some ⟨g57, 0, none⟩)), (11, .slice A6 y10.length c7), (12, .int .i64 (y10.length : Int)), (13, .int .i64 s28.2.2), (34, .pointer (some ⟨g57, 1, none⟩))] ?_)))
    refine gl_loadB (T' := 9) (xp := (.tmp 34)) (v := .string x48.f1) (g := g57) (off := 1) (cs := #[.string x48.f0, .string x48.f1]) (e := 50) (fz := (0, 0)) (by kernel_rfl) (by kernel_rfl) (by kernel_rfl) mcs (by kernel_rfl) ?_
    refine qp 1 [2, 3, 4, 6, 11, 12, 13, 36] [(2, .slice A32 s28.1.length n33), (3, .bool j58), (4, .slice A6 y10.length c7), (6, .pointer (some ⟨g57, 0, none⟩)), (11, .slice A6 y10.length c7), (12, .int .i64 (y10.length : Int)), (13, .int .i64 s28.2.2), (36, .bool (!(x48.f1.toList == (⟨#[]⟩ : ByteArray).toList)))] (qE (qs ?_))
    obtain ⟨j74, hj75, hb30⟩ := bind_some hb30
    refine gk_join (fun t I' L' => ∃ A77 n78 C79, OwnS kS49 50 I' A77 n78 j74 C79 ∧ I62 ≤ I' ∧ C79 ++ (C15 ++ L) = L' ∧ Knows 44 [(2, .slice A77 j74.length n78), (3, .bool j58), (4, .slice A6 y10.length c7), (11, .slice A6 y10.length c7), (12, .int .i64 (y10.length : Int)), (13, .int .i64 s28.2.2)] t) ?_ ?_
    ·refine gk_cond (b := (!(x48.f1.toList == (⟨#[]⟩ : ByteArray).toList))) (by kernel_rfl) (by kernel_rfl) (fun hc83 => ?_) (fun hc83 => ?_)
     ·have hj75 := cond_t hc83 hj75
      refine qR (qp 1 [3, 4, 6, 11, 12, 13, 37] [(3, .bool j58), (4, .slice A6 y10.length c7), (6, .pointer (some ⟨g57, 0, none⟩)), (11, .slice A6 y10.length c7), (12, .int .i64 (y10.length : Int)), (13, .int .i64 s28.2.2), (37, .slice A32 s28.1.length n33)] ?_)
      refine gl_loadB (T' := 50) (xp := (.tmp 6)) (v := .agg #[.string x48.f0, .string x48.f1]) (g := g57) (off := 0) (cs := #[.string x48.f0, .string x48.f1]) (e := 50) (fz := (0, 0)) (by kernel_rfl) (by kernel_rfl) (by kernel_rfl) mcs (by kernel_rfl) ?_
      refine gl_buildSlice (T' := 22) (e := 50) (n := 2) (len := 1) (parts := #[(0, (.tmp 38))]) (l := [(0, .agg #[.string x48.f0, .string x48.f1])]) (cs := #[.string x48.f0, .string x48.f1]) (by kernel_rfl) (by kernel_rfl) (by kernel_rfl) (by kernel_rfl) (by kernel_rfl) (fun g84 => ?_)
      have hO85 : OwnS kS49 50 I62 (some ⟨g84, 0, none⟩) 1 [x48] [(g84, .cells #[.string x48.f0, .string x48.f1] 50)] := OwnS.lit (row_cons (l := [.string x48.f0, .string x48.f1]) (kS49_mk (x := x48) ) (row_nil _ _)) rfl rfl rfl
      refine gl_reord (D := [(g84, .cells #[.string x48.f0, .string x48.f1] 50)] ++ ((g57, .cells #[.string x48.f0, .string x48.f1] 50) :: (C34 ++ (C15 ++ L)))) (Reord.refl _) ?_
      obtain ⟨zs88, hz89, hj75⟩ := bind_some hj75
      refine gl_append (xv := .slice (some ⟨g84, 0, none⟩) [x48].length 1) (d := kS49) (t := 22) (tx := 22) (e := 50) (s := (.tmp 37)) (x := (.tmp 39)) (xs := s28.1) (fun X => [(g84, .cells #[.string x48.f0, .string x48.f1] 50)] ++ ((g57, .cells #[.string x48.f0, .string x48.f1] 50) :: (X ++ (C15 ++ L)))) hz89 (by kernel_rfl) (by kernel_rfl) (by kernel_rfl) (by kernel_rfl) (by kernel_rfl) (by kernel_rfl) (fun X => (Upd.app _ (Upd.one _ (Upd.head _ X _)))) (hO35.mono hI60) (SrcOk.slice (c := 1) (e := 50) (n := 2) (OwnS.rd hO85 (Upd.selfC _ _)) (by kernel_rfl)) (fun A90 n91 C92 hO93 => ?_)
      refine qp 1 [2, 3, 4, 11, 12, 13] [(2, .slice A90 zs88.length n91), (3, .bool j58), (4, .slice A6 y10.length c7), (11, .slice A6 y10.length c7), (12, .int .i64 (y10.length : Int)), (13, .int .i64 s28.2.2)] ?_
      refine gl_reord (D := C92 ++ (C15 ++ L)) (Reord.step (Upd.app _ (Upd.one _ (Upd.rmC _ _))) (Reord.step (Upd.app _ (Upd.one _ (Upd.rmC _ _))) (Reord.skipC (Reord.skip (Reord.refl _))))) ?_
      refine qE ?_
      obtain rfl := some_inj hj75
      exact ge_mid fun t ht => ⟨A90, n91, C92, hO93, (Imm.refl _), rfl, ht.pick (l := [2, 3, 4, 11, 12, 13]) (by kernel_rfl)⟩
     ·have hj75 := cond_f hc83 hj75
      refine gk_reord (D := C34 ++ (C15 ++ L)) (Reord.step (Upd.one _ (Upd.rmC _ _)) (Reord.step (Upd.one _ (Upd.rmC _ _)) (Reord.skip (Reord.refl _)))) ?_
      refine qx ?_
      obtain rfl := some_inj hj75
      exact ge_mid fun t ht => ⟨A32, n33, C34, (hO35.mono hI60), (Imm.refl _), rfl, ht.pick (l := [2, 3, 4, 11, 12, 13]) (by kernel_rfl)⟩
    ·rintro t I82 L' ⟨A77, n78, C79, hO80, hI76, rfl, hK81⟩
     refine ge_at hK81 ?_
     refine qn (qs (qR (qp 2 [2, 3, 4, 11, 12, 13] [(2, .slice A77 j74.length n78), (3, .bool j58), (4, .slice A6 y10.length c7), (11, .slice A6 y10.length c7), (12, .int .i64 (y10.length : Int)), (13, .int .i64 (IntKind.wrap .i64 (s28.2.2 + 1)))] (qE ?_))))
     obtain rfl := some_inj hb30
     exact ge_round fun t ht => ⟨A77, n78, C79, hO80, (Imm.trans (Imm.trans hI31 hI60) hI76), rfl, ht.pick (l := [2, 3, 4, 11, 12, 13]) (by kernel_rfl)⟩
  ·have hb30 := cond_f hc47 hb30
   refine gk_reord (D := C34 ++ L) (Reord.step (Upd.rmC _ _) (Reord.skipC (Reord.refl _))) ?_
   refine qe (qf ?_)
   obtain rfl := some_inj hb30
   refine ge_round_out (fun hrr => ?_) (by intro h; cases h)
   obtain rfl := hrr
   refine qh ?_
   exact ge_mid fun t ht => ⟨A32, n33, C34, hO35, hI31, rfl, ht.pick (l := [2, 3]) (by kernel_rfl)⟩
 ·rintro t I44 L' ⟨A39, n40, C41, hO42, hI38, rfl, hK43⟩
  refine ge_at hK43 ?_
  refine qs (qk (qR (qp 4 [2, 3] [(2, .slice A39 r26.1.length n40), (3, .bool r26.2)] (qE (qs (qt ?_))))))
  obtain rfl := some_inj hr
  exact ge_result trivial (ResOk.tmp (by kernel_rfl) (ResOk.tmp (by kernel_rfl) ResOk.nil)) (Imm.trans (Imm.trans hI5 hI14) hI38) ⟨A39, n40, C41, hO42, rfl, rfl⟩
/-! 25 labels_Parse  -/
noncomputable def labels_Parse (a0 : ByteArray) : Option ((List S49) × Int × Int) :=
 bif (decide ((a0.size : Int) > 65536)) then
 (some ([], 4, 0))
 else
 (Option.bind (labels_reader_blanks (⟨a0, 0, (-1)⟩ : S89)) fun (y3 : S89) =>
  Option.bind (bif (decide (y3.f1 < (a0.size : Int))) then
   (Option.bind (bx a0 y3.f1) fun (c14 : Int) =>
    some (c14 == 123))
   else
   (some false)) fun (j8 : Bool) =>
  Option.bind (bif (!j8) then
   (Option.bind (labels_reader_name y3 true) fun (y26 : ByteArray × S89) =>
    Option.bind (app ([] : List S49) [(⟨(⟨#[95, 95, 110, 97, 109, 101, 95, 95]⟩ : ByteArray), y26.1⟩ : S49)]) fun (zs35 : List S49) =>
    Option.bind (labels_reader_blanks y26.2) fun (y41 : S89) =>
    some (zs35, y41.f0, y41.f1, y41.f2))
   else
   (some ([], y3.f0, y3.f1, y3.f2))) fun (j16 : (List S49) × ByteArray × Int × Int) =>
  Option.bind (labels_reader_next (⟨j16.2.1, j16.2.2.1, j16.2.2.2⟩ : S89) 123) fun (y46 : Bool × S89) =>
  Option.bind (bif y46.1 then
   (Option.bind (labels_reader_braces y46.2) fun (y61 : (List S49) × S89) =>
    Option.bind (app j16.1 y61.1) fun (zs70 : List S49) =>
    some (zs70, y61.2.f0, y61.2.f1, y61.2.f2))
   else
   (some (j16.1, y46.2.f0, y46.2.f1, y46.2.f2))) fun (j51 : (List S49) × ByteArray × Int × Int) =>
  Option.bind (labels_reader_blanks (⟨j51.2.1, j51.2.2.1, j51.2.2.2⟩ : S89)) fun (y76 : S89) =>
  Option.bind (bif ((decide (y76.f2 < 0)) && (decide (y76.f1 < (a0.size : Int)))) then
   (Option.bind (labels_reader_fail y76 y76.f1) fun (y93 : S89) =>
    some (y93.f0, y93.f1, y93.f2))
   else
   (some (y76.f0, y76.f1, y76.f2))) fun (j87 : ByteArray × Int × Int) =>
  bif (decide (j87.2.2 ≥ 0)) then
  (some ([], 3, j87.2.2))
  else
  (Option.bind (labels_sorted j51.1) fun (y103 : (List S49) × Bool) =>
   bif y103.2 then
   (some ([], 6, 0))
   else
   (Option.bind (labels_Right y103.1) fun (y113 : Int × Int) =>
    bif (y113.1 != 0) then
    (some ([], y113.1, y113.2))
    else
    (some (y103.1, 0, 0)))))
theorem labels_Parse_walk {a0 : ByteArray} {I : Imm} {r : (List S49) × Int × Int} (hG : Gl I) (hr : labels_Parse a0 = some r) (L : Own) :
  CallsTo Tryz.prog 25 #[.string a0] I L (fun v I' L' => ∃ A0 c0 C0, OwnS kS49 50 I' A0 c0 r.1 C0 ∧ v = .tuple #[.slice A0 r.1.length c0, .int .i64 r.2.1, .int .i64 r.2.2] ∧ C0 ++ L = L') := by
 unfold labels_Parse at hr
 refine callsTo_body (N := 99) Tryz.func25 (by kernel_rfl) (by kernel_rfl) (by kernel_rfl) ?_
 refine qq [0] [(0, .string a0)] (qk (qR (qp 3 [0] [(0, .string a0)] (qE (qs (qk (qk (qR (qp 3 [0, 14] [(0, .string a0), (14, .bool (decide ((a0.size : Int) > 65536)))] (qE (qs ?_)))))))))))
 refine gk_cond (b := (decide ((a0.size : Int) > 65536))) (by kernel_rfl) (by kernel_rfl) (fun hc1 => ?_) (fun hc1 => ?_)
 ·have hr := cond_t hc1 hr
  refine qk (qR (qp 3 [2, 3, 4] [(2, .slice none 0 0), (3, .int .i64 4), (4, .int .i64 0)] (qE (qs (qt (qu ?_))))))
  obtain rfl := some_inj hr
  exact ge_result trivial (ResOk.tmp (by kernel_rfl) (ResOk.tmp (by kernel_rfl) (ResOk.tmp (by kernel_rfl) ResOk.nil))) (Imm.refl _) ⟨none, 0, [], OwnS.nil _ _ _ _, rfl, rfl⟩
 ·have hr := cond_f hc1 hr
  refine qx (qs (qk (qR (qp 2 [0, 16] [(0, .string a0), (16, .agg #[.string a0, .int .i64 0, .int .i64 (-1)])] ?_))))
  refine gl_box (T' := 90) (x := (.tmp 16)) (v := .agg #[.string a0, .int .i64 0, .int .i64 (-1)]) (cs := #[.string a0, .int .i64 0, .int .i64 (-1)]) (by kernel_rfl) (by kernel_rfl) (by kernel_rfl) (by kernel_rfl) (fun g2 => ?_)
  refine qp 1 [0, 5] [(0, .string a0), (5, .pointer (some ⟨g2, 0, none⟩))] (qE (qs (qk (qR (qp 1 [0, 5, 6] [(0, .string a0), (5, .pointer (some ⟨g2, 0, none⟩)), (6, .slice none 0 0)] (qE (qs (qk (qR (qp 1 [0, 5, 6, 18] [(0, .string a0), (5, .pointer (some ⟨g2, 0, none⟩)), (6, .slice none 0 0), (18, .pointer (some ⟨g2, 0, none⟩))] ?_))))))))))
  obtain ⟨y3, hx4, hr⟩ := bind_some hr
  refine gl_call (by kernel_rfl) (labels_reader_blanks_walk (r := y3) (g0 := g2) (T0 := 90) (a0 := (⟨a0, 0, (-1)⟩ : S89)) hx4 _) ?_
  rintro v I5 L6 hI7 ⟨rfl, rfl⟩
  refine qE (qs (qk ?_))
  obtain ⟨j8, hj9, hr⟩ := bind_some hr
  refine gk_join (fun t I' L' => I5 ≤ I' ∧ (g2, .cells #[.string y3.f0, .int .i64 y3.f1, .int .i64 y3.f2] 90) :: L = L' ∧ Knows 99 [(0, .string a0), (5, .pointer (some ⟨g2, 0, none⟩)), (6, .slice none 0 0), (7, .bool j8)] t) ?_ ?_
  ·refine qR (qp 3 [0, 5, 6, 22] [(0, .string a0), (5, .pointer (some ⟨g2, 0, none⟩)), (6, .slice none 0 0), (22, .pointer (some ⟨g2, 1, none⟩))] ?_)
   refine gl_loadB (T' := 3) (xp := (.tmp 22)) (v := .int .i64 y3.f1) (g := g2) (off := 1) (cs := #[.string y3.f0, .int .i64 y3.f1, .int .i64 y3.f2]) (e := 90) (fz := (0, 0)) (by kernel_rfl) (by kernel_rfl) (by kernel_rfl) mcs (by kernel_rfl) ?_
   refine qp 4 [0, 5, 6, 27] [(0, .string a0), (5, .pointer (some ⟨g2, 0, none⟩)), (6, .slice none 0 0), (27, .bool (decide (y3.f1 < (a0.size : Int))))] ?_
   refine gl_case 27 (b := (decide (y3.f1 < (a0.size : Int)))) (by kernel_rfl) (fun hc13 => ?_) (fun hc13 => ?_)
   ·have hj9 := cond_t hc13 hj9
    refine qp 4 [0, 5, 6, 27, 28, 31] [(0, .string a0), (5, .pointer (some ⟨g2, 0, none⟩)), (6, .slice none 0 0), (27, .bool true), (28, .string a0), (31, .pointer (some ⟨g2, 1, none⟩))] ?_
    refine gl_loadB (T' := 3) (xp := (.tmp 31)) (v := .int .i64 y3.f1) (g := g2) (off := 1) (cs := #[.string y3.f0, .int .i64 y3.f1, .int .i64 y3.f2]) (e := 90) (fz := (0, 0)) (by kernel_rfl) (by kernel_rfl) (by kernel_rfl) mcs (by kernel_rfl) ?_
    obtain ⟨c14, hx15, hj9⟩ := bind_some hj9
    refine gl_index' (T' := 9) (xs := (.tmp 28)) (xi := (.tmp 32)) (kd := .i64) hx15 (by kernel_rfl) (by kernel_rfl) (by kernel_rfl) (by kernel_rfl) (by kernel_rfl) ?_
    refine qp 3 [0, 5, 6, 7] [(0, .string a0), (5, .pointer (some ⟨g2, 0, none⟩)), (6, .slice none 0 0), (7, .bool (c14 == 123))] (qE ?_)
    obtain rfl := some_inj hj9
    exact ge_mid fun t ht => ⟨(Imm.refl _), rfl, ht.pick (l := [0, 5, 6, 7]) (by kernel_rfl)⟩
   ·have hj9 := cond_f hc13 hj9
    refine qp 9 [0, 5, 6, 7] [(0, .string a0), (5, .pointer (some ⟨g2, 0, none⟩)), (6, .slice none 0 0), (7, .bool false)] (qE ?_)
    obtain rfl := some_inj hj9
    exact ge_mid fun t ht => ⟨(Imm.refl _), rfl, ht.pick (l := [0, 5, 6, 7]) (by kernel_rfl)⟩
  ·rintro t I12 L' ⟨hI10, rfl, hK11⟩
   refine ge_at hK11 ?_
   refine qs (qk (qk (qR (qp 2 [0, 5, 6, 37] [(0, .string a0), (5, .pointer (some ⟨g2, 0, none⟩)), (6, .slice none 0 0), (37, .bool (!j8))] (qE (qs ?_))))))
   obtain ⟨j16, hj17, hr⟩ := bind_some hr
   refine gk_join (fun t I' L' => ∃ A19 n20 C21, OwnS kS49 50 I' A19 n20 j16.1 C21 ∧ I12 ≤ I' ∧ C21 ++ ((g2, .cells #[.string j16.2.1, .int .i64 j16.2.2.1, .int .i64 j16.2.2.2] 90) :: L) = L' ∧ Knows 99 [(0, .string a0), (5, .pointer (some ⟨g2, 0, none⟩)), (6, .slice A19 j16.1.length n20)] t) ?_ ?_
   ·refine gk_cond (b := (!j8)) (by kernel_rfl) (by kernel_rfl) (fun hc25 => ?_) (fun hc25 => ?_)
    ·have hj17 := cond_t hc25 hj17
     refine qk (qR (qp 2 [0, 5, 38, 39] [(0, .string a0), (5, .pointer (some ⟨g2, 0, none⟩)), (38, .slice none 0 0), (39, .pointer (some ⟨g2, 0, none⟩))] ?_))
     obtain ⟨y26, hx27, hj17⟩ := bind_some hj17
     refine gl_call (by kernel_rfl) (labels_reader_name_walk (r := y26) (g0 := g2) (T0 := 90) (a0 := y3) hx27 _) ?_
     rintro v I28 L29 hI30 ⟨rfl, rfl⟩
     refine qp 1 [0, 5, 38, 41] [(0, .string a0), (5, .pointer (some ⟨g2, 0, none⟩)), (38, .slice none 0 0), (41, .agg #[.string (⟨#[95, 95, 110, 97, 109, 101, 95, 95]⟩ : ByteArray), .string y26.1])] ?_
     refine gl_buildSlice (T' := 22) (e := 50) (n := 2) (len := 1) (parts := #[(0, (.tmp 41))]) (l := [(0, .agg #[.string (⟨#[95, 95, 110, 97, 109, 101, 95, 95]⟩ : ByteArray), .string y26.1])]) (cs := #[.string (⟨#[95, 95, 110, 97, 109, 101, 95, 95]⟩ : ByteArray), .string y26.1]) (by kernel_rfl) (by kernel_rfl) (by kernel_rfl) (by kernel_rfl) (by kernel_rfl) (fun g31 => ?_)
     have hO32 : OwnS kS49 50 I28 (some ⟨g31, 0, none⟩) 1 [(⟨(⟨#[95, 95, 110, 97, 109, 101, 95, 95]⟩ : ByteArray), y26.1⟩ : S49)] [(g31, .cells #[.string (⟨#[95, 95, 110, 97, 109, 101, 95, 95]⟩ : ByteArray), .string y26.1] 50)] := OwnS.lit (row_cons (l := [.string (⟨#[95, 95, 110, 97, 109, 101, 95, 95]⟩ : ByteArray), .string y26.1]) (kS49_mk (x := (⟨(⟨#[95, 95, 110, 97, 109, 101, 95, 95]⟩ : ByteArray), y26.1⟩ : S49)) ) (row_nil _ _)) rfl rfl rfl
     refine gl_reord (D := [(g31, .cells #[.string (⟨#[95, 95, 110, 97, 109, 101, 95, 95]⟩ : ByteArray), .string y26.1] 50)] ++ ((g2, .cells #[.string y26.2.f0, .int .i64 y26.2.f1, .int .i64 y26.2.f2] 90) :: L)) (Reord.refl _) ?_
     obtain ⟨zs35, hz36, hj17⟩ := bind_some hj17
     refine gl_append (xv := .slice (some ⟨g31, 0, none⟩) [(⟨(⟨#[95, 95, 110, 97, 109, 101, 95, 95]⟩ : ByteArray), y26.1⟩ : S49)].length 1) (d := kS49) (t := 22) (tx := 22) (e := 50) (s := (.tmp 38)) (x := (.tmp 42)) (xs := []) (A := none) (c := 0) (C := []) (fun X => X ++ ([(g31, .cells #[.string (⟨#[95, 95, 110, 97, 109, 101, 95, 95]⟩ : ByteArray), .string y26.1] 50)] ++ ((g2, .cells #[.string y26.2.f0, .int .i64 y26.2.f1, .int .i64 y26.2.f2] 90) :: L))) hz36 (by kernel_rfl) (by kernel_rfl) (by kernel_rfl) (by kernel_rfl) (by kernel_rfl) (by kernel_rfl) (fun X => Upd.new X _) (OwnS.nil _ _ _ none) (SrcOk.slice (c := 1) (e := 50) (n := 2) (OwnS.rd hO32 (Upd.selfC _ _)) (by kernel_rfl)) (fun A37 n38 C39 hO40 => ?_)
     refine qp 1 [0, 5, 6] [(0, .string a0), (5, .pointer (some ⟨g2, 0, none⟩)), (6, .slice A37 zs35.length n38)] (qE (qs (qR (qp 1 [0, 5, 6, 44] [(0, .string a0), (5, .pointer (some ⟨g2, 0, none⟩)), (6, .slice A37 zs35.length n38), (44, .pointer (some ⟨g2, 0, none⟩))] ?_))))
     obtain ⟨y41, hx42, hj17⟩ := bind_some hj17
     refine gl_reord (D := (g2, .cells #[.string y26.2.f0, .int .i64 y26.2.f1, .int .i64 y26.2.f2] 90) :: (C39 ++ ([(g31, .cells #[.string (⟨#[95, 95, 110, 97, 109, 101, 95, 95]⟩ : ByteArray), .string y26.1] 50)] ++ L))) (Reord.step1 (Upd.app _ (Upd.app _ (Upd.rm1 _ _))) (Reord.step (Upd.rmC _ _) (Reord.step (Upd.rmC _ _) (Reord.refl _)))) ?_
     refine gl_call (by kernel_rfl) (labels_reader_blanks_walk (r := y41) (g0 := g2) (T0 := 90) (a0 := y26.2) hx42 _) ?_
     rintro v I43 L44 hI45 ⟨rfl, rfl⟩
     refine gl_reord (D := C39 ++ ((g2, .cells #[.string y41.f0, .int .i64 y41.f1, .int .i64 y41.f2] 90) :: L)) (Reord.step (Upd.one _ (Upd.rmC _ _)) (Reord.step1 (Upd.rm1 _ _) (Reord.skipC (Reord.refl _)))) ?_
     refine qE ?_
     obtain rfl := some_inj hj17
     exact ge_mid fun t ht => ⟨A37, n38, C39, (hO40.mono hI45), (Imm.trans hI30 hI45), rfl, ht.pick (l := [0, 5, 6]) (by kernel_rfl)⟩
    ·have hj17 := cond_f hc25 hj17
     refine qx ?_
     obtain rfl := some_inj hj17
     exact ge_mid fun t ht => ⟨none, 0, [], OwnS.nil _ _ _ _, (Imm.refl _), rfl, ht.pick (l := [0, 5, 6]) (by kernel_rfl)⟩
   ·rintro t I24 L' ⟨A19, n20, C21, hO22, hI18, rfl, hK23⟩
    refine ge_at hK23 ?_
    refine qs (qk (qk (qR (qp 1 [0, 5, 6, 46] [(0, .string a0), (5, .pointer (some ⟨g2, 0, none⟩)), (6, .slice A19 j16.1.length n20), (46, .pointer (some ⟨g2, 0, none⟩))] ?_))))
    obtain ⟨y46, hx47, hr⟩ := bind_some hr
    refine gl_reord (D := (g2, .cells #[.string j16.2.1, .int .i64 j16.2.2.1, .int .i64 j16.2.2.2] 90) :: (C21 ++ L)) (Reord.step1 (Upd.app _ (Upd.rm1 _ _)) (Reord.step (Upd.rmC _ _) (Reord.refl _))) ?_
    refine gl_call (by kernel_rfl) (labels_reader_next_walk (r := y46) (g0 := g2) (T0 := 90) (a0 := (⟨j16.2.1, j16.2.2.1, j16.2.2.2⟩ : S89)) hx47 _) ?_
    rintro v I48 L49 hI50 ⟨rfl, rfl⟩
    refine qE (qs ?_)
    obtain ⟨j51, hj52, hr⟩ := bind_some hr
    refine gk_join (fun t I' L' => ∃ A54 n55 C56, OwnS kS49 50 I' A54 n55 j51.1 C56 ∧ I48 ≤ I' ∧ C56 ++ ((g2, .cells #[.string j51.2.1, .int .i64 j51.2.2.1, .int .i64 j51.2.2.2] 90) :: L) = L' ∧ Knows 99 [(0, .string a0), (5, .pointer (some ⟨g2, 0, none⟩)), (6, .slice A54 j51.1.length n55)] t) ?_ ?_
    ·refine gk_cond (b := y46.1) (by kernel_rfl) (by kernel_rfl) (fun hc60 => ?_) (fun hc60 => ?_)
     ·have hj52 := cond_t hc60 hj52
      refine qR (qp 2 [0, 5, 48, 49] [(0, .string a0), (5, .pointer (some ⟨g2, 0, none⟩)), (48, .slice A19 j16.1.length n20), (49, .pointer (some ⟨g2, 0, none⟩))] ?_)
      obtain ⟨y61, hx62, hj52⟩ := bind_some hj52
      refine gl_call (by kernel_rfl) (labels_reader_braces_walk (r := y61) (g0 := g2) (T0 := 90) (a0 := y46.2) hx62 _) ?_
      rintro v I63 L64 hI65 ⟨A66, c67, C68, hO69, rfl, rfl⟩
      obtain ⟨zs70, hz71, hj52⟩ := bind_some hj52
      refine gl_append (xv := .slice A66 y61.1.length c67) (d := kS49) (t := 22) (tx := 22) (e := 50) (s := (.tmp 48)) (x := (.tmp 50)) (xs := j16.1) (fun X => C68 ++ ((g2, .cells #[.string y61.2.f0, .int .i64 y61.2.f1, .int .i64 y61.2.f2] 90) :: (X ++ L))) hz71 (by kernel_rfl) (by kernel_rfl) (by kernel_rfl) (by kernel_rfl) (by kernel_rfl) (by kernel_rfl) (fun X => (Upd.app _ (Upd.one _ (Upd.head _ X _)))) (hO22.mono (Imm.trans hI50 hI65)) (SrcOk.slice (c := c67) (e := 50) (n := 2) (OwnS.rd hO69 (Upd.selfC _ _)) (by kernel_rfl)) (fun A72 n73 C74 hO75 => ?_)
      refine qp 1 [0, 5, 6] [(0, .string a0), (5, .pointer (some ⟨g2, 0, none⟩)), (6, .slice A72 zs70.length n73)] ?_
      refine gl_reord (D := C74 ++ ((g2, .cells #[.string y61.2.f0, .int .i64 y61.2.f1, .int .i64 y61.2.f2] 90) :: L)) (Reord.step (Upd.app _ (Upd.one _ (Upd.rmC _ _))) (Reord.step1 (Upd.app _ (Upd.rm1 _ _)) (Reord.skipC (Reord.refl _)))) ?_
      refine qE ?_
      obtain rfl := some_inj hj52
      exact ge_mid fun t ht => ⟨A72, n73, C74, hO75, hI65, rfl, ht.pick (l := [0, 5, 6]) (by kernel_rfl)⟩
     ·have hj52 := cond_f hc60 hj52
      refine gk_reord (D := C21 ++ ((g2, .cells #[.string y46.2.f0, .int .i64 y46.2.f1, .int .i64 y46.2.f2] 90) :: L)) (Reord.step (Upd.one _ (Upd.rmC _ _)) (Reord.step1 (Upd.rm1 _ _) (Reord.refl _))) ?_
      refine qx ?_
      obtain rfl := some_inj hj52
      exact ge_mid fun t ht => ⟨A19, n20, C21, (hO22.mono hI50), (Imm.refl _), rfl, ht.pick (l := [0, 5, 6]) (by kernel_rfl)⟩
    ·rintro t I59 L' ⟨A54, n55, C56, hO57, hI53, rfl, hK58⟩
     refine ge_at hK58 ?_
     refine qs (qk (qR (qp 1 [0, 5, 6, 52] [(0, .string a0), (5, .pointer (some ⟨g2, 0, none⟩)), (6, .slice A54 j51.1.length n55), (52, .pointer (some ⟨g2, 0, none⟩))] ?_)))
     obtain ⟨y76, hx77, hr⟩ := bind_some hr
     refine gl_reord (D := (g2, .cells #[.string j51.2.1, .int .i64 j51.2.2.1, .int .i64 j51.2.2.2] 90) :: (C56 ++ L)) (Reord.step1 (Upd.app _ (Upd.rm1 _ _)) (Reord.step (Upd.rmC _ _) (Reord.refl _))) ?_
     refine gl_call (by kernel_rfl) (labels_reader_blanks_walk (r := y76) (g0 := g2) (T0 := 90) (a0 := (⟨j51.2.1, j51.2.2.1, j51.2.2.2⟩ : S89)) hx77 _) ?_
     rintro v I78 L79 hI80 ⟨rfl, rfl⟩
     refine qE (qs (qk (qk ?_)))
     obtain ⟨b83, hb84⟩ : ∃ z, z = ((decide (y76.f2 < 0)) && (decide (y76.f1 < (a0.size : Int)))) := ⟨_, rfl⟩
     refine gk_join (fun t I' L' => I78 ≤ I' ∧ (g2, .cells #[.string y76.f0, .int .i64 y76.f1, .int .i64 y76.f2] 90) :: (C56 ++ L) = L' ∧ Knows 99 [(5, .pointer (some ⟨g2, 0, none⟩)), (6, .slice A54 j51.1.length n55), (67, .bool b83)] t) ?_ ?_
     ·refine qR (qp 3 [0, 5, 6, 56] [(0, .string a0), (5, .pointer (some ⟨g2, 0, none⟩)), (6, .slice A54 j51.1.length n55), (56, .pointer (some ⟨g2, 2, none⟩))] ?_)
      refine gl_loadB (T' := 3) (xp := (.tmp 56)) (v := .int .i64 y76.f2) (g := g2) (off := 2) (cs := #[.string y76.f0, .int .i64 y76.f1, .int .i64 y76.f2]) (e := 90) (fz := (0, 0)) (by kernel_rfl) (by kernel_rfl) (by kernel_rfl) mcs (by kernel_rfl) ?_
      refine qp 2 [0, 5, 6, 59] [(0, .string a0), (5, .pointer (some ⟨g2, 0, none⟩)), (6, .slice A54 j51.1.length n55), (59, .bool (decide (y76.f2 < 0)))] ?_
      refine gl_case 59 (b := (decide (y76.f2 < 0))) (by kernel_rfl) (fun hc86 => ?_) (fun hc86 => ?_)
      ·refine qp 3 [0, 5, 6, 59, 62] [(0, .string a0), (5, .pointer (some ⟨g2, 0, none⟩)), (6, .slice A54 j51.1.length n55), (59, .bool true), (62, .pointer (some ⟨g2, 1, none⟩))] ?_
       refine gl_loadB (T' := 3) (xp := (.tmp 62)) (v := .int .i64 y76.f1) (g := g2) (off := 1) (cs := #[.string y76.f0, .int .i64 y76.f1, .int .i64 y76.f2]) (e := 90) (fz := (0, 0)) (by kernel_rfl) (by kernel_rfl) (by kernel_rfl) mcs (by kernel_rfl) ?_
       refine qp 4 [5, 6, 67] [(5, .pointer (some ⟨g2, 0, none⟩)), (6, .slice A54 j51.1.length n55), (67, .bool (decide (y76.f1 < (a0.size : Int))))] (qE ?_)
       exact ge_mid fun t ht => ⟨(Imm.refl _), rfl, by rw [(show b83 = (decide (y76.f1 < (a0.size : Int))) from hb84.trans (by first | (rw [hc86]; done) | (rw [hc86]; rfl) | (simp [hc86]; done) | (simp only [hc86]; rfl) | (simp at *; omega)))]; exact ht.pick (l := [5, 6, 67]) (by kernel_rfl)⟩
      ·refine qp 8 [5, 6, 67] [(5, .pointer (some ⟨g2, 0, none⟩)), (6, .slice A54 j51.1.length n55), (67, .bool false)] (qE ?_)
       exact ge_mid fun t ht => ⟨(Imm.refl _), rfl, by rw [(show b83 = false from hb84.trans (by first | (rw [hc86]; done) | (rw [hc86]; rfl) | (simp [hc86]; done) | (simp only [hc86]; rfl) | (simp at *; omega)))]; exact ht.pick (l := [5, 6, 67]) (by kernel_rfl)⟩
     ·rintro t I85 L' ⟨hI81, rfl, hK82⟩
      subst hb84
      refine ge_at hK82 ?_
      refine qs ?_
      obtain ⟨j87, hj88, hr⟩ := bind_some hr
      refine gk_join (fun t I' L' => I85 ≤ I' ∧ (g2, .cells #[.string j87.1, .int .i64 j87.2.1, .int .i64 j87.2.2] 90) :: (C56 ++ L) = L' ∧ Knows 99 [(5, .pointer (some ⟨g2, 0, none⟩)), (6, .slice A54 j51.1.length n55)] t) ?_ ?_
      ·refine gk_cond (b := ((decide (y76.f2 < 0)) && (decide (y76.f1 < (a0.size : Int))))) (by kernel_rfl) (by kernel_rfl) (fun hc92 => ?_) (fun hc92 => ?_)
       ·have hj88 := cond_t hc92 hj88
        refine qR (qp 4 [5, 6, 68, 71] [(5, .pointer (some ⟨g2, 0, none⟩)), (6, .slice A54 j51.1.length n55), (68, .pointer (some ⟨g2, 0, none⟩)), (71, .pointer (some ⟨g2, 1, none⟩))] ?_)
        refine gl_loadB (T' := 3) (xp := (.tmp 71)) (v := .int .i64 y76.f1) (g := g2) (off := 1) (cs := #[.string y76.f0, .int .i64 y76.f1, .int .i64 y76.f2]) (e := 90) (fz := (0, 0)) (by kernel_rfl) (by kernel_rfl) (by kernel_rfl) mcs (by kernel_rfl) ?_
        obtain ⟨y93, hx94, hj88⟩ := bind_some hj88
        refine gl_call (by kernel_rfl) (labels_reader_fail_walk (r := y93) (g0 := g2) (T0 := 90) (a0 := y76) hx94 _) ?_
        rintro v I95 L96 hI97 ⟨rfl, rfl⟩
        refine qE ?_
        obtain rfl := some_inj hj88
        exact ge_mid fun t ht => ⟨hI97, rfl, ht.pick (l := [5, 6]) (by kernel_rfl)⟩
       ·have hj88 := cond_f hc92 hj88
        refine qx ?_
        obtain rfl := some_inj hj88
        exact ge_mid fun t ht => ⟨(Imm.refl _), rfl, ht.pick (l := [5, 6]) (by kernel_rfl)⟩
      ·rintro t I91 L' ⟨hI89, rfl, hK90⟩
       refine ge_at hK90 ?_
       refine qs (qk (qk (qR (qp 3 [5, 6, 76] [(5, .pointer (some ⟨g2, 0, none⟩)), (6, .slice A54 j51.1.length n55), (76, .pointer (some ⟨g2, 2, none⟩))] ?_))))
       refine gl_loadB (T' := 3) (xp := (.tmp 76)) (v := .int .i64 j87.2.2) (g := g2) (off := 2) (cs := #[.string j87.1, .int .i64 j87.2.1, .int .i64 j87.2.2]) (e := 90) (fz := (0, 0)) (by kernel_rfl) (by kernel_rfl) (by kernel_rfl) mcs (by kernel_rfl) ?_
       refine qp 1 [5, 6, 78] [(5, .pointer (some ⟨g2, 0, none⟩)), (6, .slice A54 j51.1.length n55), (78, .bool (decide (j87.2.2 ≥ 0)))] (qE (qs ?_))
       refine gk_cond (b := (decide (j87.2.2 ≥ 0))) (by kernel_rfl) (by kernel_rfl) (fun hc98 => ?_) (fun hc98 => ?_)
       ·have hr := cond_t hc98 hr
        refine qk ?_
        refine gk_draw 7 (rng 0 7) [(g2, .cells #[.string j87.1, .int .i64 j87.2.1, .int .i64 j87.2.2] 90)] (fmc ⟨mcs, nim⟩) (by kernel_rfl) (by kernel_rfl) (by kernel_rfl) ?_ (by kernel_rfl)
        refine dp 3 [81] [(81, .pointer (some ⟨g2, 2, none⟩))] (rng 3 4) (CC.refl (fmc ⟨mcs, nim⟩)) ?_
        refine gd_q (v := .int .i64 j87.2.2) (by kernel_rfl) (by kernel_rfl) (CC.refl (fmc ⟨mcs, nim⟩)) (fun I' L' T hC kk => gl_loadB (T' := 3) (xp := (.tmp 81)) (v := .int .i64 j87.2.2) (g := g2) (off := 2) (cs := #[.string j87.1, .int .i64 j87.2.1, .int .i64 j87.2.2]) (e := 90) (fz := (0, 0)) (by kernel_rfl) (by kernel_rfl) (by kernel_rfl) (hC.sub _ mcs) (by kernel_rfl) kk) ?_
        refine dp 3 [2, 3, 4] [(2, .slice none 0 0), (3, .int .i64 3), (4, .int .i64 j87.2.2)] [] (CC.refl (fmc ⟨mcs, nim⟩)) ?_
        refine gd_done ?_
        refine qE (qs ?_)
        refine gk_reord (D := L) (Reord.skip (Reord.skipC (Reord.refl _))) ?_
        refine qt (qu ?_)
        obtain rfl := some_inj hr
        exact ge_result trivial (ResOk.tmp (by kernel_rfl) (ResOk.tmp (by kernel_rfl) (ResOk.tmp (by kernel_rfl) ResOk.nil))) (Imm.trans (Imm.trans (Imm.trans (Imm.trans (Imm.trans (Imm.trans (Imm.trans hI7 hI10) hI18) hI50) hI53) hI80) hI81) hI89) ⟨none, 0, [], OwnS.nil _ _ _ _, rfl, rfl⟩
       ·have hr := cond_f hc98 hr
        refine qx (qs (qk (qR (qp 1 [84] [(84, .slice A54 j51.1.length n55)] ?_))))
        refine gl_rest (Tk.step (Upd.one _ (Upd.rmC _ _)) (Tk.nil _)) (fun J99 hJ100 hC101 => ?_)
        have hf102 := (OwnS.rest (hO57.mono (Imm.trans (Imm.trans hI80 hI81) hI89)) hJ100 hC101.left)
        obtain ⟨y103, hx104, hr⟩ := bind_some hr
        refine gl_call (by kernel_rfl) (labels_sorted_walk (r := y103) hf102 hx104 _) ?_
        rintro v I105 L106 hI107 ⟨A108, c109, C110, hO111, rfl, rfl⟩
        refine qp 5 [8, 9] [(8, .slice A108 y103.1.length c109), (9, .bool y103.2)] (qE (qs (qk (qk (qR (qp 1 [8, 88] [(8, .slice A108 y103.1.length c109), (88, .bool y103.2)] (qE (qs ?_))))))))
        refine gk_cond (b := y103.2) (by kernel_rfl) (by kernel_rfl) (fun hc112 => ?_) (fun hc112 => ?_)
        ·have hr := cond_t hc112 hr
         refine qk (qR (qp 3 [2, 3, 4] [(2, .slice none 0 0), (3, .int .i64 6), (4, .int .i64 0)] (qE (qs ?_))))
         refine gk_reord (D := L) (Reord.skipC (Reord.skip (Reord.refl _))) ?_
         refine qt (qu ?_)
         obtain rfl := some_inj hr
         exact ge_result trivial (ResOk.tmp (by kernel_rfl) (ResOk.tmp (by kernel_rfl) (ResOk.tmp (by kernel_rfl) ResOk.nil))) (Imm.trans (Imm.trans (Imm.trans (Imm.trans (Imm.trans (Imm.trans (Imm.trans (Imm.trans (Imm.trans hI7 hI10) hI18) hI50) hI53) hI80) hI81) hI89) hJ100) hI107) ⟨none, 0, [], OwnS.nil _ _ _ _, rfl, rfl⟩
        ·have hr := cond_f hc112 hr
         refine qx (qs (qk (qk (qR (qp 1 [8, 90] [(8, .slice A108 y103.1.length c109), (90, .slice A108 y103.1.length c109)] ?_)))))
         obtain ⟨y113, hx114, hr⟩ := bind_some hr
         refine gl_callB (r := .tuple #[.int .i64 y113.1, .int .i64 y113.2]) (Tk.step (Upd.rmC _ _) (Tk.nil _)) (by kernel_rfl) (fun J hJ hC => labels_Right_walk (r := y113) (hG.mono (Imm.trans (Imm.trans (Imm.trans (Imm.trans (Imm.trans (Imm.trans (Imm.trans (Imm.trans (Imm.trans (Imm.trans hI7 hI10) hI18) hI50) hI53) hI80) hI81) hI89) hJ100) hI107) hJ)) (OwnS.rest hO111 hJ hC.left) hx114 _) ?_
         refine qp 5 [8, 10, 11] [(8, .slice A108 y103.1.length c109), (10, .int .i64 y113.1), (11, .int .i64 y113.2)] (qE (qs (qk (qR (qp 2 [8, 10, 11, 95] [(8, .slice A108 y103.1.length c109), (10, .int .i64 y113.1), (11, .int .i64 y113.2), (95, .bool (y113.1 != 0))] (qE (qs ?_)))))))
         refine gk_cond (b := (y113.1 != 0)) (by kernel_rfl) (by kernel_rfl) (fun hc115 => ?_) (fun hc115 => ?_)
         ·have hr := cond_t hc115 hr
          refine qk (qR (qp 5 [2, 3, 4] [(2, .slice none 0 0), (3, .int .i64 y113.1), (4, .int .i64 y113.2)] (qE (qs ?_))))
          refine gk_reord (D := L) (Reord.skipC (Reord.skip (Reord.refl _))) ?_
          refine qt (qu ?_)
          obtain rfl := some_inj hr
          exact ge_result trivial (ResOk.tmp (by kernel_rfl) (ResOk.tmp (by kernel_rfl) (ResOk.tmp (by kernel_rfl) ResOk.nil))) (Imm.trans (Imm.trans (Imm.trans (Imm.trans (Imm.trans (Imm.trans (Imm.trans (Imm.trans (Imm.trans hI7 hI10) hI18) hI50) hI53) hI80) hI81) hI89) hJ100) hI107) ⟨none, 0, [], OwnS.nil _ _ _ _, rfl, rfl⟩
         ·have hr := cond_f hc115 hr
          refine qx (qs (qk (qR (qp 4 [2, 3, 4] [(2, .slice A108 y103.1.length c109), (3, .int .i64 0), (4, .int .i64 0)] (qE (qs ?_))))))
          refine gk_reord (D := C110 ++ L) (Reord.step (Upd.rmC _ _) (Reord.skip (Reord.refl _))) ?_
          refine qt ?_
          obtain rfl := some_inj hr
          exact ge_result trivial (ResOk.tmp (by kernel_rfl) (ResOk.tmp (by kernel_rfl) (ResOk.tmp (by kernel_rfl) ResOk.nil))) (Imm.trans (Imm.trans (Imm.trans (Imm.trans (Imm.trans (Imm.trans (Imm.trans (Imm.trans (Imm.trans hI7 hI10) hI18) hI50) hI53) hI80) hI81) hI89) hJ100) hI107) ⟨A108, c109, C110, hO111, rfl, rfl⟩
structure S97 where
 f0 : ByteArray
 f1 : Int
 f2 : Int
/-! 73 tocsinref04_Text_Blanks ('obj',) -/
noncomputable def tocsinref04_Text_Blanks_l16 (a0 : S97) : Int → Option ((Int) ⊕ (Int)) := fun s7 =>
 Option.bind (bif (decide (s7 < (a0.f0.size : Int))) then
  (Option.bind (bx a0.f0 s7) fun (c24 : Int) =>
   bif (c24 == 32) then
   (some true)
   else
   (Option.bind (bx a0.f0 s7) fun (c27 : Int) =>
    some (c27 == 9)))
  else
  (some false)) fun (j18 : Bool) =>
 bif j18 then
 (some (Sum.inl (IntKind.wrap .i64 (s7 + 1))))
 else
 (some (Sum.inr s7))
noncomputable def tocsinref04_Text_Blanks (a0 : S97) : Option S97 :=
 Option.bind (loopO (tocsinref04_Text_Blanks_l16 a0) a0.f1) fun (r5 : Int) =>
 some (⟨a0.f0, r5, a0.f2⟩ : S97)
theorem tocsinref04_Text_Blanks_walk {a0 : S97} {g0 : Nat} {T0 : TypeId} {I : Imm} {r : S97}  (hr : tocsinref04_Text_Blanks a0 = some r) (L : Own) :
  CallsTo Tryz.prog 73 #[.pointer (some ⟨g0, 0, none⟩)] I ((g0, .cells #[.string a0.f0, .int .i64 a0.f1, .int .i64 a0.f2] T0) :: L) (fun v I' L' => v = .tuple #[] ∧ (g0, .cells #[.string r.f0, .int .i64 r.f1, .int .i64 r.f2] T0) :: L = L') := by
 unfold tocsinref04_Text_Blanks at hr
 refine callsTo_body (N := 43) Tryz.func73 (by kernel_rfl) (by kernel_rfl) (by kernel_rfl) ?_
 refine qq [0] [(0, .pointer (some ⟨g0, 0, none⟩))] ?_
 obtain ⟨r5, hl6, hr⟩ := bind_some hr
 refine gk_join (fun t I' L' => I ≤ I' ∧ (g0, .cells #[.string a0.f0, .int .i64 r5, .int .i64 a0.f2] T0) :: L = L' ∧ Knows 43 [] t) ?_ ?_
 ·refine qb (qq [0] [(0, .pointer (some ⟨g0, 0, none⟩))] ?_)
  intro t hK
  refine gc_loop (tocsinref04_Text_Blanks_l16 a0) (fun s7 t I' L' => I ≤ I' ∧ (g0, .cells #[.string a0.f0, .int .i64 s7, .int .i64 a0.f2] T0) :: L = L' ∧ Knows 43 [(0, .pointer (some ⟨g0, 0, none⟩))] t) (by kernel_rfl) ?_ hl6 ⟨(Imm.refl _), rfl, hK⟩
  rintro s7 o8 t I12 L' hb9 ⟨hI10, rfl, hK11⟩
  unfold tocsinref04_Text_Blanks_l16 at hb9
  refine gk_at hK11 ?_
  refine qk (qk ?_)
  obtain ⟨j18, hj19, hb9⟩ := bind_some hb9
  refine gk_join (fun t I' L' => I12 ≤ I' ∧ (g0, .cells #[.string a0.f0, .int .i64 s7, .int .i64 a0.f2] T0) :: L = L' ∧ Knows 43 [(0, .pointer (some ⟨g0, 0, none⟩)), (35, .bool j18)] t) ?_ ?_
  ·refine gk_draw 34 (rng 0 34) [(g0, .cells #[.string a0.f0, .int .i64 s7, .int .i64 a0.f2] T0)] (fmc ⟨mcs, nim⟩) (by kernel_rfl) (by kernel_rfl) (by kernel_rfl) ?_ (by kernel_rfl)
   refine dp 3 [0, 4] [(0, .pointer (some ⟨g0, 0, none⟩)), (4, .pointer (some ⟨g0, 1, none⟩))] (rng 3 31) (CC.refl (fmc ⟨mcs, nim⟩)) ?_
   refine gd_q (v := .int .i64 s7) (by kernel_rfl) (by kernel_rfl) (CC.refl (fmc ⟨mcs, nim⟩)) (fun I' L' T hC kk => gl_loadB (T' := 3) (xp := (.tmp 4)) (v := .int .i64 s7) (g := g0) (off := 1) (cs := #[.string a0.f0, .int .i64 s7, .int .i64 a0.f2]) (e := T0) (fz := (0, 0)) (by kernel_rfl) (by kernel_rfl) (by kernel_rfl) (hC.sub _ mcs) (by kernel_rfl) kk) ?_
   refine dp 3 [0, 5, 8] [(0, .pointer (some ⟨g0, 0, none⟩)), (5, .int .i64 s7), (8, .pointer (some ⟨g0, 0, none⟩))] (rng 7 27) (CC.refl (fmc ⟨mcs, nim⟩)) ?_
   refine gd_q (v := .string a0.f0) (by kernel_rfl) (by kernel_rfl) (CC.refl (fmc ⟨mcs, nim⟩)) (fun I' L' T hC kk => gl_loadB (T' := 9) (xp := (.tmp 8)) (v := .string a0.f0) (g := g0) (off := 0) (cs := #[.string a0.f0, .int .i64 s7, .int .i64 a0.f2]) (e := T0) (fz := (0, 0)) (by kernel_rfl) (by kernel_rfl) (by kernel_rfl) (hC.sub _ mcs) (by kernel_rfl) kk) ?_
   refine dp 3 [0, 12] [(0, .pointer (some ⟨g0, 0, none⟩)), (12, .bool (decide (s7 < (a0.f0.size : Int))))] (rng 11 23) (CC.refl (fmc ⟨mcs, nim⟩)) ?_
   refine gd_case 12 (b := (decide (s7 < (a0.f0.size : Int)))) (by kernel_rfl) (fun hc23 => ?_) (fun hc23 => ?_)
   ·have hj19 := cond_t hc23 hj19
    refine dp 3 [0, 12, 15] [(0, .pointer (some ⟨g0, 0, none⟩)), (12, .bool true), (15, .pointer (some ⟨g0, 0, none⟩))] (rng 14 20) (CC.refl (fmc ⟨mcs, nim⟩)) ?_
    refine gd_q (v := .string a0.f0) (by kernel_rfl) (by kernel_rfl) (CC.refl (fmc ⟨mcs, nim⟩)) (fun I' L' T hC kk => gl_loadB (T' := 9) (xp := (.tmp 15)) (v := .string a0.f0) (g := g0) (off := 0) (cs := #[.string a0.f0, .int .i64 s7, .int .i64 a0.f2]) (e := T0) (fz := (0, 0)) (by kernel_rfl) (by kernel_rfl) (by kernel_rfl) (hC.sub _ mcs) (by kernel_rfl) kk) ?_
    refine dp 3 [0, 12, 16, 19] [(0, .pointer (some ⟨g0, 0, none⟩)), (12, .bool true), (16, .string a0.f0), (19, .pointer (some ⟨g0, 1, none⟩))] (rng 18 16) (CC.refl (fmc ⟨mcs, nim⟩)) ?_
    refine gd_q (v := .int .i64 s7) (by kernel_rfl) (by kernel_rfl) (CC.refl (fmc ⟨mcs, nim⟩)) (fun I' L' T hC kk => gl_loadB (T' := 3) (xp := (.tmp 19)) (v := .int .i64 s7) (g := g0) (off := 1) (cs := #[.string a0.f0, .int .i64 s7, .int .i64 a0.f2]) (e := T0) (fz := (0, 0)) (by kernel_rfl) (by kernel_rfl) (by kernel_rfl) (hC.sub _ mcs) (by kernel_rfl) kk) ?_
    obtain ⟨c24, hx25, hj19⟩ := bind_some hj19
    refine gd_q (v := .int .u8 c24) (by kernel_rfl) (by kernel_rfl) (CC.refl (fmc ⟨mcs, nim⟩)) (fun I' L' T hC kk => gl_index' (T' := 9) (xs := (.tmp 16)) (xi := (.tmp 20)) (kd := .i64) hx25 (by kernel_rfl) (by kernel_rfl) (by kernel_rfl) (by kernel_rfl) (by kernel_rfl) kk) ?_
    refine dp 2 [0, 12, 23] [(0, .pointer (some ⟨g0, 0, none⟩)), (12, .bool true), (23, .bool (c24 == 32))] (rng 22 12) (CC.refl (fmc ⟨mcs, nim⟩)) ?_
    refine gd_case 23 (b := (c24 == 32)) (by kernel_rfl) (fun hc26 => ?_) (fun hc26 => ?_)
    ·have hj19 := cond_t hc26 hj19
     refine dp 12 [0, 35] [(0, .pointer (some ⟨g0, 0, none⟩)), (35, .bool true)] [] (CC.refl (fmc ⟨mcs, nim⟩)) ?_
     refine gd_done ?_
     refine qE ?_
     obtain rfl := some_inj hj19
     exact ge_mid fun t ht => ⟨(Imm.refl _), rfl, ht.pick (l := [0, 35]) (by kernel_rfl)⟩
    ·have hj19 := cond_f hc26 hj19
     refine dp 3 [0, 12, 23, 26] [(0, .pointer (some ⟨g0, 0, none⟩)), (12, .bool true), (23, .bool false), (26, .pointer (some ⟨g0, 0, none⟩))] (rng 25 9) (CC.refl (fmc ⟨mcs, nim⟩)) ?_
     refine gd_q (v := .string a0.f0) (by kernel_rfl) (by kernel_rfl) (CC.refl (fmc ⟨mcs, nim⟩)) (fun I' L' T hC kk => gl_loadB (T' := 9) (xp := (.tmp 26)) (v := .string a0.f0) (g := g0) (off := 0) (cs := #[.string a0.f0, .int .i64 s7, .int .i64 a0.f2]) (e := T0) (fz := (0, 0)) (by kernel_rfl) (by kernel_rfl) (by kernel_rfl) (hC.sub _ mcs) (by kernel_rfl) kk) ?_
     refine dp 3 [0, 12, 23, 27, 30] [(0, .pointer (some ⟨g0, 0, none⟩)), (12, .bool true), (23, .bool false), (27, .string a0.f0), (30, .pointer (some ⟨g0, 1, none⟩))] (rng 29 5) (CC.refl (fmc ⟨mcs, nim⟩)) ?_
     refine gd_q (v := .int .i64 s7) (by kernel_rfl) (by kernel_rfl) (CC.refl (fmc ⟨mcs, nim⟩)) (fun I' L' T hC kk => gl_loadB (T' := 3) (xp := (.tmp 30)) (v := .int .i64 s7) (g := g0) (off := 1) (cs := #[.string a0.f0, .int .i64 s7, .int .i64 a0.f2]) (e := T0) (fz := (0, 0)) (by kernel_rfl) (by kernel_rfl) (by kernel_rfl) (hC.sub _ mcs) (by kernel_rfl) kk) ?_
     obtain ⟨c27, hx28, hj19⟩ := bind_some hj19
     refine gd_q (v := .int .u8 c27) (by kernel_rfl) (by kernel_rfl) (CC.refl (fmc ⟨mcs, nim⟩)) (fun I' L' T hC kk => gl_index' (T' := 9) (xs := (.tmp 27)) (xi := (.tmp 31)) (kd := .i64) hx28 (by kernel_rfl) (by kernel_rfl) (by kernel_rfl) (by kernel_rfl) (by kernel_rfl) kk) ?_
     refine dp 3 [0, 35] [(0, .pointer (some ⟨g0, 0, none⟩)), (35, .bool (c27 == 9))] [] (CC.refl (fmc ⟨mcs, nim⟩)) ?_
     refine gd_done ?_
     refine qE ?_
     obtain rfl := some_inj hj19
     exact ge_mid fun t ht => ⟨(Imm.refl _), rfl, ht.pick (l := [0, 35]) (by kernel_rfl)⟩
   ·have hj19 := cond_f hc23 hj19
    refine dp 23 [0, 35] [(0, .pointer (some ⟨g0, 0, none⟩)), (35, .bool false)] [] (CC.refl (fmc ⟨mcs, nim⟩)) ?_
    refine gd_done ?_
    refine qE ?_
    obtain rfl := some_inj hj19
    exact ge_mid fun t ht => ⟨(Imm.refl _), rfl, ht.pick (l := [0, 35]) (by kernel_rfl)⟩
  ·rintro t I22 L' ⟨hI20, rfl, hK21⟩
   refine ge_at hK21 ?_
   refine qs ?_
   refine gk_cond (b := j18) (by kernel_rfl) (by kernel_rfl) (fun hc29 => ?_) (fun hc29 => ?_)
   ·have hb9 := cond_t hc29 hb9
    refine qx (qs (qb (qR (qp 3 [0, 36, 38] [(0, .pointer (some ⟨g0, 0, none⟩)), (36, .pointer (some ⟨g0, 0, none⟩)), (38, .pointer (some ⟨g0, 1, none⟩))] ?_))))
    refine gl_loadB (T' := 3) (xp := (.tmp 38)) (v := .int .i64 s7) (g := g0) (off := 1) (cs := #[.string a0.f0, .int .i64 s7, .int .i64 a0.f2]) (e := T0) (fz := (0, 0)) (by kernel_rfl) (by kernel_rfl) (by kernel_rfl) mcs (by kernel_rfl) ?_
    refine qp 3 [0, 40, 42] [(0, .pointer (some ⟨g0, 0, none⟩)), (40, .int .i64 (IntKind.wrap .i64 (s7 + 1))), (42, .pointer (some ⟨g0, 1, none⟩))] ?_
    refine gl_storeB (T' := 3) (xp := (.tmp 42)) (xv := (.tmp 40)) (v := .int .i64 (IntKind.wrap .i64 (s7 + 1))) (g := g0) (off := 1) (cs := #[.string a0.f0, .int .i64 s7, .int .i64 a0.f2]) (cs' := #[.string a0.f0, .int .i64 (IntKind.wrap .i64 (s7 + 1)), .int .i64 a0.f2]) (by kernel_rfl) (by kernel_rfl) (by kernel_rfl) (by kernel_rfl) (by kernel_rfl) (Upd.set _ _ _ _) ?_ (by kernel_rfl)
    refine qE (qn ?_)
    obtain rfl := some_inj hb9
    exact ge_round fun t ht => ⟨(Imm.trans hI10 hI20), rfl, ht.pick (l := [0]) (by kernel_rfl)⟩
   ·have hb9 := cond_f hc29 hb9
    refine qe (qf ?_)
    obtain rfl := some_inj hb9
    refine ge_round_out (fun hrr => ?_) (by intro h; cases h)
    obtain rfl := hrr
    refine qh ?_
    exact ge_mid fun t ht => ⟨(Imm.trans hI10 hI20), rfl, ht.pick (l := []) (by kernel_rfl)⟩
 ·rintro t I15 L' ⟨hI13, rfl, hK14⟩
  refine ge_at hK14 ?_
  obtain rfl := some_inj hr
  exact ge_result trivial ResOk.nil hI13 ⟨rfl, rfl⟩
end Go.Proofs.YtnlkfajnaelnnaaGreatDoor
