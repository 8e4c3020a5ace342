/- AggrFolds: what values come to is what the document says, and they stay. -/
import Derived.Test.YtkjkkimnjpodiaaGreatDoorGS3t
import Derived.Test.YtkjkkimnjpodiaaGreatDoorGB34t
import Derived.KernelRfl
import Derived.Lib.LaidU8T
import Derived.Shelf.Unicode.ValidAny
import Derived.Test.YtkjkkimnjpodiaaGreatDoorVQ6t
set_option linter.unusedVariables false
set_option linter.unusedSimpArgs false
set_option maxRecDepth 100000
namespace Go.Proofs.YtkjkkimnjpodiaaGreatDoor
open Go.GB
noncomputable def aggr_values_sum_l37_c (l12 : List Fl) : (Fl × Int) → Option ((Fl × Int) ⊕ (Fl)) := fun s24 =>
  bif (decide (s24.2 < (l12.length : Int))) then
  (Option.bind (ix l12 s24.2) fun (x40 : Fl) =>
    some (Sum.inl ((farith .add s24.1 x40), (IntKind.wrap .i64 (s24.2 + 1)))))
  else
  (some (Sum.inr s24.1))
theorem aggr_values_sum_l37_ev (l12 : List Fl) (s24 : Fl × Int) : OLe (aggr_values_sum_l37_c l12 s24) (aggr_values_sum_l37 l12 s24) := by
  unfold aggr_values_sum_l37_c aggr_values_sum_l37
  exact (OLe.cond (OLe.bind (OLe.refl _) (fun _ => (OLe.refl _))) (OLe.refl _))
noncomputable def aggr_values_sum_c (a0 : List Fl) (a1 : Fl) : Option Fl :=
  Option.bind (ix a0 0) fun (x1 : Fl) =>
  Option.bind (lx a0 1 (a0.length : Int)) fun (l12 : List Fl) =>
  Option.bind (loopF 1000000 (aggr_values_sum_l37_c l12) (x1, 0)) fun (r22 : Fl) =>
  some r22
theorem aggr_values_sum_ev (a0 : List Fl) (a1 : Fl) : OLe (aggr_values_sum_c a0 a1) (aggr_values_sum a0 a1) := by
  unfold aggr_values_sum_c aggr_values_sum
  exact (OLe.bind (OLe.refl _) (fun _ => (OLe.bind (OLe.refl _) (fun _ => (OLe.bind (OLe.loop (fun _ => aggr_values_sum_l37_ev _ _)) (fun _ => (OLe.refl _)))))))
noncomputable def aggr_values_avg_c (a0 : List Fl) (a1 : Fl) : Option Fl :=
  Option.bind (aggr_values_sum_c a0 a1) fun (y1 : Fl) =>
  some (farith .quo y1 (some (FloatKind.nearest .f64 (a0.length : Int)) : Fl))
theorem aggr_values_avg_ev (a0 : List Fl) (a1 : Fl) : OLe (aggr_values_avg_c a0 a1) (aggr_values_avg a0 a1) := by
  unfold aggr_values_avg_c aggr_values_avg
  exact (OLe.bind (aggr_values_sum_ev _ _) (fun _ => (OLe.refl _)))
noncomputable def aggr_values_min_l32_c (a0 : List Fl) : (Fl × Int) → Option ((Fl × Int) ⊕ (Fl)) := fun s19 =>
  bif (decide (s19.2 < (a0.length : Int))) then
  (Option.bind (ix a0 s19.2) fun (x35 : Fl) =>
    Option.bind (bif (fcmp .lss x35 s19.1) then
      (some true)
      else
      (some (math_IsNaN s19.1))) fun (j45 : Bool) =>
    Option.bind (bif j45 then
      (some x35)
      else
      (some s19.1)) fun (j51 : Fl) =>
    some (Sum.inl (j51, (IntKind.wrap .i64 (s19.2 + 1)))))
  else
  (some (Sum.inr s19.1))
theorem aggr_values_min_l32_ev (a0 : List Fl) (s19 : Fl × Int) : OLe (aggr_values_min_l32_c a0 s19) (aggr_values_min_l32 a0 s19) := by
  unfold aggr_values_min_l32_c aggr_values_min_l32
  exact (OLe.cond (OLe.bind (OLe.refl _) (fun _ => (OLe.bind (OLe.cond (OLe.refl _) (OLe.refl _)) (fun _ => (OLe.bind (OLe.cond (OLe.refl _) (OLe.refl _)) (fun _ => (OLe.refl _))))))) (OLe.refl _))
noncomputable def aggr_values_min_c (a0 : List Fl) (a1 : Fl) : Option Fl :=
  Option.bind (ix a0 0) fun (x1 : Fl) =>
  Option.bind (loopF 1000000 (aggr_values_min_l32_c a0) (x1, 0)) fun (r17 : Fl) =>
  some r17
theorem aggr_values_min_ev (a0 : List Fl) (a1 : Fl) : OLe (aggr_values_min_c a0 a1) (aggr_values_min a0 a1) := by
  unfold aggr_values_min_c aggr_values_min
  exact (OLe.bind (OLe.refl _) (fun _ => (OLe.bind (OLe.loop (fun _ => aggr_values_min_l32_ev _ _)) (fun _ => (OLe.refl _)))))
noncomputable def aggr_values_max_l32_c (a0 : List Fl) : (Fl × Int) → Option ((Fl × Int) ⊕ (Fl)) := fun s19 =>
  bif (decide (s19.2 < (a0.length : Int))) then
  (Option.bind (ix a0 s19.2) fun (x35 : Fl) =>
    Option.bind (bif (fcmp .gtr x35 s19.1) then
      (some true)
      else
      (some (math_IsNaN s19.1))) fun (j45 : Bool) =>
    Option.bind (bif j45 then
      (some x35)
      else
      (some s19.1)) fun (j51 : Fl) =>
    some (Sum.inl (j51, (IntKind.wrap .i64 (s19.2 + 1)))))
  else
  (some (Sum.inr s19.1))
theorem aggr_values_max_l32_ev (a0 : List Fl) (s19 : Fl × Int) : OLe (aggr_values_max_l32_c a0 s19) (aggr_values_max_l32 a0 s19) := by
  unfold aggr_values_max_l32_c aggr_values_max_l32
  exact (OLe.cond (OLe.bind (OLe.refl _) (fun _ => (OLe.bind (OLe.cond (OLe.refl _) (OLe.refl _)) (fun _ => (OLe.bind (OLe.cond (OLe.refl _) (OLe.refl _)) (fun _ => (OLe.refl _))))))) (OLe.refl _))
noncomputable def aggr_values_max_c (a0 : List Fl) (a1 : Fl) : Option Fl :=
  Option.bind (ix a0 0) fun (x1 : Fl) =>
  Option.bind (loopF 1000000 (aggr_values_max_l32_c a0) (x1, 0)) fun (r17 : Fl) =>
  some r17
theorem aggr_values_max_ev (a0 : List Fl) (a1 : Fl) : OLe (aggr_values_max_c a0 a1) (aggr_values_max a0 a1) := by
  unfold aggr_values_max_c aggr_values_max
  exact (OLe.bind (OLe.refl _) (fun _ => (OLe.bind (OLe.loop (fun _ => aggr_values_max_l32_ev _ _)) (fun _ => (OLe.refl _)))))
noncomputable def aggr_values_stdvar_l35_c (a0 : List Fl) (y1 : Fl) : ((List Fl) × Int) → Option (((List Fl) × Int) ⊕ ((List Fl))) := fun s18 =>
  bif (decide (s18.2 < (a0.length : Int))) then
  (Option.bind (ix a0 s18.2) fun (x38 : Fl) =>
    Option.bind (app s18.1 [(farith .mul (farith .sub x38 y1) (farith .sub x38 y1))]) fun (zs56 : List Fl) =>
    some (Sum.inl (zs56, (IntKind.wrap .i64 (s18.2 + 1)))))
  else
  (some (Sum.inr s18.1))
theorem aggr_values_stdvar_l35_ev (a0 : List Fl) (y1 : Fl) (s18 : (List Fl) × Int) : OLe (aggr_values_stdvar_l35_c a0 y1 s18) (aggr_values_stdvar_l35 a0 y1 s18) := by
  unfold aggr_values_stdvar_l35_c aggr_values_stdvar_l35
  exact (OLe.cond (OLe.bind (OLe.refl _) (fun _ => (OLe.bind (OLe.refl _) (fun _ => (OLe.refl _))))) (OLe.refl _))
noncomputable def aggr_values_stdvar_c (a0 : List Fl) (a1 : Fl) : Option Fl :=
  Option.bind (aggr_values_avg_c a0 a1) fun (y1 : Fl) =>
  Option.bind (loopF 1000000 (aggr_values_stdvar_l35_c a0 y1) ([], 0)) fun (r16 : (List Fl)) =>
  Option.bind (aggr_values_sum_c r16 a1) fun (y66 : Fl) =>
  some (farith .quo y66 (some (FloatKind.nearest .f64 (a0.length : Int)) : Fl))
theorem aggr_values_stdvar_ev (a0 : List Fl) (a1 : Fl) : OLe (aggr_values_stdvar_c a0 a1) (aggr_values_stdvar a0 a1) := by
  unfold aggr_values_stdvar_c aggr_values_stdvar
  exact (OLe.bind (aggr_values_avg_ev _ _) (fun _ => (OLe.bind (OLe.loop (fun _ => aggr_values_stdvar_l35_ev _ _ _)) (fun _ => (OLe.bind (aggr_values_sum_ev _ _) (fun _ => (OLe.refl _)))))))
noncomputable def aggr_values_stddev_c (a0 : List Fl) (a1 : Fl) : Option Fl :=
  Option.bind (aggr_values_stdvar_c a0 a1) fun (y1 : Fl) =>
  some (math_Sqrt y1)
theorem aggr_values_stddev_ev (a0 : List Fl) (a1 : Fl) : OLe (aggr_values_stddev_c a0 a1) (aggr_values_stddev a0 a1) := by
  unfold aggr_values_stddev_c aggr_values_stddev
  exact (OLe.bind (aggr_values_stdvar_ev _ _) (fun _ => (OLe.refl _)))
noncomputable def math_Inf_c (a0 : Int) : Option Fl :=
  Option.bind (bif (decide (a0 ≥ 0)) then
    (some 9218868437227405312)
    else
    (some 18442240474082181120)) fun (j1 : Int) =>
  some (some (j1 : Int).toNat : Fl)
theorem math_Inf_ev (a0 : Int) : OLe (math_Inf_c a0) (math_Inf a0) := by
  unfold math_Inf_c math_Inf
  exact (OLe.bind (OLe.cond (OLe.refl _) (OLe.refl _)) (fun _ => (OLe.refl _)))
noncomputable def slices_Clone_c (a0 : List Fl) : Option (List Fl) :=
  Option.bind (app ([] : List Fl) a0) fun (zs3 : List Fl) =>
  some zs3
theorem slices_Clone_ev (a0 : List Fl) : OLe (slices_Clone_c a0) (slices_Clone a0) := by
  unfold slices_Clone_c slices_Clone
  exact (OLe.bind (OLe.refl _) (fun _ => (OLe.refl _)))
noncomputable def aggr_ahead_c (a0 : Fl) (a1 : Fl) : Option Int :=
  bif ((cmp_Compare a0 a1) != 0) then
  (some (cmp_Compare a0 a1))
  else
  (Option.bind (fbits a1) fun (q2 : Int) =>
    Option.bind (fbits a0) fun (q4 : Int) =>
    some (cmp_Compare_f176 (shr .u64 q2 63) (shr .u64 q4 63)))
theorem aggr_ahead_ev (a0 : Fl) (a1 : Fl) : OLe (aggr_ahead_c a0 a1) (aggr_ahead a0 a1) := by
  unfold aggr_ahead_c aggr_ahead
  exact (OLe.cond (OLe.refl _) (OLe.bind (OLe.refl _) (fun _ => (OLe.bind (OLe.refl _) (fun _ => (OLe.refl _))))))
noncomputable def slices_insertionSortCmpFunc_l52_c (a1 : Int) : ((List Fl) × Int) → Option (((List Fl) × Int) ⊕ ((List Fl))) := fun s37 =>
  Option.bind (bif (decide (s37.2 > a1)) then
    (Option.bind (ix s37.1 s37.2) fun (x60 : Fl) =>
      Option.bind (ix s37.1 (IntKind.wrap .i64 (s37.2 - 1))) fun (x71 : Fl) =>
      Option.bind (aggr_ahead_c x60 x71) fun (y82 : Int) =>
      some (decide (y82 < 0)))
    else
    (some false)) fun (j54 : Bool) =>
  bif j54 then
  (Option.bind (ix s37.1 (IntKind.wrap .i64 (s37.2 - 1))) fun (x85 : Fl) =>
    Option.bind (ix s37.1 s37.2) fun (x96 : Fl) =>
    Option.bind (ix s37.1 s37.2) fun (x107 : Fl) =>
    Option.bind (ix (lset s37.1 s37.2 x85) (IntKind.wrap .i64 (s37.2 - 1))) fun (x121 : Fl) =>
    some (Sum.inl ((lset (lset s37.1 s37.2 x85) (IntKind.wrap .i64 (s37.2 - 1)) x96), (IntKind.wrap .i64 (s37.2 - 1)))))
  else
  (some (Sum.inr s37.1))
theorem slices_insertionSortCmpFunc_l52_ev (a1 : Int) (s37 : (List Fl) × Int) : OLe (slices_insertionSortCmpFunc_l52_c a1 s37) (slices_insertionSortCmpFunc_l52 a1 s37) := by
  unfold slices_insertionSortCmpFunc_l52_c slices_insertionSortCmpFunc_l52
  exact (OLe.bind (OLe.cond (OLe.bind (OLe.refl _) (fun _ => (OLe.bind (OLe.refl _) (fun _ => (OLe.bind (aggr_ahead_ev _ _) (fun _ => (OLe.refl _))))))) (OLe.refl _)) (fun _ => (OLe.cond (OLe.bind (OLe.refl _) (fun _ => (OLe.bind (OLe.refl _) (fun _ => (OLe.bind (OLe.refl _) (fun _ => (OLe.bind (OLe.refl _) (fun _ => (OLe.refl _))))))))) (OLe.refl _))))
noncomputable def slices_insertionSortCmpFunc_l25_c (a1 : Int) (a2 : Int) : ((List Fl) × Int) → Option (((List Fl) × Int) ⊕ ((List Fl))) := fun s10 =>
  bif (decide (s10.2 < a2)) then
  (Option.bind (loopF 1000000 (slices_insertionSortCmpFunc_l52_c a1) (s10.1, s10.2)) fun (r35 : (List Fl)) =>
    some (Sum.inl (r35, (IntKind.wrap .i64 (s10.2 + 1)))))
  else
  (some (Sum.inr s10.1))
theorem slices_insertionSortCmpFunc_l25_ev (a1 : Int) (a2 : Int) (s10 : (List Fl) × Int) : OLe (slices_insertionSortCmpFunc_l25_c a1 a2 s10) (slices_insertionSortCmpFunc_l25 a1 a2 s10) := by
  unfold slices_insertionSortCmpFunc_l25_c slices_insertionSortCmpFunc_l25
  exact (OLe.cond (OLe.bind (OLe.loop (fun _ => slices_insertionSortCmpFunc_l52_ev _ _)) (fun _ => (OLe.refl _))) (OLe.refl _))
noncomputable def slices_insertionSortCmpFunc_c (a0 : List Fl) (a1 : Int) (a2 : Int) : Option (List Fl) :=
  Option.bind (loopF 1000000 (slices_insertionSortCmpFunc_l25_c a1 a2) (a0, (IntKind.wrap .i64 (a1 + 1)))) fun (r8 : (List Fl)) =>
  some r8
theorem slices_insertionSortCmpFunc_ev (a0 : List Fl) (a1 : Int) (a2 : Int) : OLe (slices_insertionSortCmpFunc_c a0 a1 a2) (slices_insertionSortCmpFunc a0 a1 a2) := by
  unfold slices_insertionSortCmpFunc_c slices_insertionSortCmpFunc
  exact (OLe.bind (OLe.loop (fun _ => slices_insertionSortCmpFunc_l25_ev _ _ _)) (fun _ => (OLe.refl _)))
noncomputable def slices_symMergeCmpFunc_c (a0 : List Fl) (a1 : Int) (a2 : Int) (a3 : Int) : Option (List Fl) := none
theorem slices_symMergeCmpFunc_ev (a0 : List Fl) (a1 : Int) (a2 : Int) (a3 : Int) : OLe (slices_symMergeCmpFunc_c a0 a1 a2 a3) (slices_symMergeCmpFunc a0 a1 a2 a3) := by
  intro r h; cases h
noncomputable def slices_stableCmpFunc_l25_c (a1 : Int) : ((List Fl) × Int × Int) → Option (((List Fl) × Int × Int) ⊕ ((List Fl) × Int)) := fun s10 =>
  bif (decide (s10.2.2 ≤ a1)) then
  (Option.bind (slices_insertionSortCmpFunc_c s10.1 s10.2.1 s10.2.2) fun (y28 : (List Fl)) =>
    some (Sum.inl (y28, s10.2.2, (IntKind.wrap .i64 (s10.2.2 + 20)))))
  else
  (some (Sum.inr (s10.1, s10.2.1)))
theorem slices_stableCmpFunc_l25_ev (a1 : Int) (s10 : (List Fl) × Int × Int) : OLe (slices_stableCmpFunc_l25_c a1 s10) (slices_stableCmpFunc_l25 a1 s10) := by
  unfold slices_stableCmpFunc_l25_c slices_stableCmpFunc_l25
  exact (OLe.cond (OLe.bind (slices_insertionSortCmpFunc_ev _ _ _) (fun _ => (OLe.refl _))) (OLe.refl _))
noncomputable def slices_stableCmpFunc_l95_c (a1 : Int) (s53 : (List Fl) × Int) : ((List Fl) × Int × Int) → Option (((List Fl) × Int × Int) ⊕ ((List Fl) × Int)) := fun s80 =>
  bif (decide (s80.2.2 ≤ a1)) then
  (Option.bind (slices_symMergeCmpFunc_c s80.1 s80.2.1 (IntKind.wrap .i64 (s80.2.1 + s53.2)) s80.2.2) fun (y98 : (List Fl)) =>
    some (Sum.inl (y98, s80.2.2, (IntKind.wrap .i64 (s80.2.2 + (IntKind.wrap .i64 (2 * s53.2)))))))
  else
  (some (Sum.inr (s80.1, s80.2.1)))
theorem slices_stableCmpFunc_l95_ev (a1 : Int) (s53 : (List Fl) × Int) (s80 : (List Fl) × Int × Int) : OLe (slices_stableCmpFunc_l95_c a1 s53 s80) (slices_stableCmpFunc_l95 a1 s53 s80) := by
  unfold slices_stableCmpFunc_l95_c slices_stableCmpFunc_l95
  exact (OLe.cond (OLe.bind (slices_symMergeCmpFunc_ev _ _ _ _) (fun _ => (OLe.refl _))) (OLe.refl _))
noncomputable def slices_stableCmpFunc_l68_c (a1 : Int) : ((List Fl) × Int) → Option (((List Fl) × Int) ⊕ ((List Fl))) := fun s53 =>
  bif (decide (s53.2 < a1)) then
  (Option.bind (loopF 1000000 (slices_stableCmpFunc_l95_c a1 s53) (s53.1, 0, (IntKind.wrap .i64 (2 * s53.2)))) fun (r78 : (List Fl) × Int) =>
    Option.bind (bif (decide ((IntKind.wrap .i64 (r78.2 + s53.2)) < a1)) then
      (Option.bind (slices_symMergeCmpFunc_c r78.1 r78.2 (IntKind.wrap .i64 (r78.2 + s53.2)) a1) fun (y115 : (List Fl)) =>
        some y115)
      else
      (some r78.1)) fun (j106 : (List Fl)) =>
    some (Sum.inl (j106, (IntKind.wrap .i64 (s53.2 * 2)))))
  else
  (some (Sum.inr s53.1))
theorem slices_stableCmpFunc_l68_ev (a1 : Int) (s53 : (List Fl) × Int) : OLe (slices_stableCmpFunc_l68_c a1 s53) (slices_stableCmpFunc_l68 a1 s53) := by
  unfold slices_stableCmpFunc_l68_c slices_stableCmpFunc_l68
  exact (OLe.cond (OLe.bind (OLe.loop (fun _ => slices_stableCmpFunc_l95_ev _ _ _)) (fun _ => (OLe.bind (OLe.cond (OLe.bind (slices_symMergeCmpFunc_ev _ _ _ _) (fun _ => (OLe.refl _))) (OLe.refl _)) (fun _ => (OLe.refl _))))) (OLe.refl _))
noncomputable def slices_stableCmpFunc_c (a0 : List Fl) (a1 : Int) : Option (List Fl) :=
  Option.bind (loopF 1000000 (slices_stableCmpFunc_l25_c a1) (a0, 0, 20)) fun (r8 : (List Fl) × Int) =>
  Option.bind (slices_insertionSortCmpFunc_c r8.1 r8.2 a1) fun (y36 : (List Fl)) =>
  Option.bind (loopF 1000000 (slices_stableCmpFunc_l68_c a1) (y36, 20)) fun (r51 : (List Fl)) =>
  some r51
theorem slices_stableCmpFunc_ev (a0 : List Fl) (a1 : Int) : OLe (slices_stableCmpFunc_c a0 a1) (slices_stableCmpFunc a0 a1) := by
  unfold slices_stableCmpFunc_c slices_stableCmpFunc
  exact (OLe.bind (OLe.loop (fun _ => slices_stableCmpFunc_l25_ev _ _)) (fun _ => (OLe.bind (slices_insertionSortCmpFunc_ev _ _ _) (fun _ => (OLe.bind (OLe.loop (fun _ => slices_stableCmpFunc_l68_ev _ _)) (fun _ => (OLe.refl _)))))))
noncomputable def slices_SortStableFunc_c (a0 : List Fl) : Option (List Fl) :=
  Option.bind (slices_stableCmpFunc_c a0 (a0.length : Int)) fun (y1 : (List Fl)) =>
  some y1
theorem slices_SortStableFunc_ev (a0 : List Fl) : OLe (slices_SortStableFunc_c a0) (slices_SortStableFunc a0) := by
  unfold slices_SortStableFunc_c slices_SortStableFunc
  exact (OLe.bind (slices_stableCmpFunc_ev _ _) (fun _ => (OLe.refl _)))
noncomputable def aggr_values_quantile_c (a0 : List Fl) (a1 : Fl) : Option Fl :=
  bif (math_IsNaN a1) then
  (some a1)
  else
  (bif (fcmp .lss a1 (some 0 : Fl)) then
    (Option.bind (math_Inf_c (-1)) fun (y3 : Fl) =>
      some y3)
    else
    (bif (fcmp .gtr a1 (some 4607182418800017408 : Fl)) then
      (Option.bind (math_Inf_c 1) fun (y11 : Fl) =>
        some y11)
      else
      (Option.bind (slices_Clone_c a0) fun (y18 : (List Fl)) =>
        Option.bind (slices_SortStableFunc_c y18) fun (y27 : (List Fl)) =>
        Option.bind (ftoi .i64 (farith .mul a1 (some (FloatKind.nearest .f64 (IntKind.wrap .i64 ((y27.length : Int) - 1))) : Fl))) fun (q37 : Int) =>
        Option.bind (ix y27 q37) fun (x41 : Fl) =>
        Option.bind (ix y27 (if (IntKind.wrap .i64 ((y27.length : Int) - 1)) < (IntKind.wrap .i64 (q37 + 1)) then (IntKind.wrap .i64 ((y27.length : Int) - 1)) else (IntKind.wrap .i64 (q37 + 1)))) fun (x56 : Fl) =>
        some (farith .add (farith .mul x41 (farith .sub (some 4607182418800017408 : Fl) (farith .sub (farith .mul a1 (some (FloatKind.nearest .f64 (IntKind.wrap .i64 ((y27.length : Int) - 1))) : Fl)) (some (FloatKind.nearest .f64 q37) : Fl)))) (farith .mul x56 (farith .sub (farith .mul a1 (some (FloatKind.nearest .f64 (IntKind.wrap .i64 ((y27.length : Int) - 1))) : Fl)) (some (FloatKind.nearest .f64 q37) : Fl)))))))
theorem aggr_values_quantile_ev (a0 : List Fl) (a1 : Fl) : OLe (aggr_values_quantile_c a0 a1) (aggr_values_quantile a0 a1) := by
  unfold aggr_values_quantile_c aggr_values_quantile
  exact (OLe.cond (OLe.refl _) (OLe.cond (OLe.bind (math_Inf_ev _) (fun _ => (OLe.refl _))) (OLe.cond (OLe.bind (math_Inf_ev _) (fun _ => (OLe.refl _))) (OLe.bind (slices_Clone_ev _) (fun _ => (OLe.bind (slices_SortStableFunc_ev _) (fun _ => (OLe.bind (OLe.refl _) (fun _ => (OLe.bind (OLe.refl _) (fun _ => (OLe.bind (OLe.refl _) (fun _ => (OLe.refl _))))))))))))))
noncomputable def tabf_48_c : Nat → (List Fl) → Fl → Option Fl
  | 0, _, _ => none
  | 1, x0, x1 => aggr_values_sum_c x0 x1
  | 2, x0, x1 => aggr_values_avg_c x0 x1
  | 3, x0, x1 => aggr_values_min_c x0 x1
  | 4, x0, x1 => aggr_values_max_c x0 x1
  | 5, x0, x1 => (fun x0 x1 => some (aggr_values_count x0 x1)) x0 x1
  | 6, x0, x1 => (fun x0 x1 => some (aggr_values_group x0 x1)) x0 x1
  | 7, x0, x1 => aggr_values_stdvar_c x0 x1
  | 8, x0, x1 => aggr_values_stddev_c x0 x1
  | _ + 9, x0, x1 => aggr_values_quantile_c x0 x1
theorem tabf_48_ev : ∀ (k : Nat) (x0 : List Fl) (x1 : Fl), OLe (tabf_48_c k x0 x1) (tabf_48 k x0 x1)
  | 0, x0, x1 => fun _ h => by cases h
  | 1, x0, x1 => aggr_values_sum_ev x0 x1
  | 2, x0, x1 => aggr_values_avg_ev x0 x1
  | 3, x0, x1 => aggr_values_min_ev x0 x1
  | 4, x0, x1 => aggr_values_max_ev x0 x1
  | 5, x0, x1 => OLe.refl _
  | 6, x0, x1 => OLe.refl _
  | 7, x0, x1 => aggr_values_stdvar_ev x0 x1
  | 8, x0, x1 => aggr_values_stddev_ev x0 x1
  | _ + 9, x0, x1 => aggr_values_quantile_ev x0 x1
noncomputable def aggr_Fold_c (a0 : ByteArray) (a1 : List Fl) (a2 : Fl) : Option (Fl × Int) :=
  bif ((aggr_fold a0) == 0) then
  (some ((some 0 : Fl), 60))
  else
  (bif ((a1.length : Int) == 0) then
    (some ((some 0 : Fl), 5))
    else
    (Option.bind (tabf_48_c (aggr_fold a0) a1 a2) fun (y4 : Fl) =>
      some ((aggr_told y4), 0)))
theorem aggr_Fold_ev (a0 : ByteArray) (a1 : List Fl) (a2 : Fl) : OLe (aggr_Fold_c a0 a1 a2) (aggr_Fold a0 a1 a2) := by
  unfold aggr_Fold_c aggr_Fold
  exact (OLe.cond (OLe.refl _) (OLe.cond (OLe.refl _) (OLe.bind (tabf_48_ev _ _ _) (fun _ => (OLe.refl _)))))
noncomputable def slices_Index_l17_c (a0 : List ByteArray) (a1 : ByteArray) : Int → Option ((Int) ⊕ ((Unit) ⊕ (Int))) := fun s7 =>
  bif (decide (s7 < (a0.length : Int))) then
  (Option.bind (ix a0 s7) fun (x20 : ByteArray) =>
    bif (a1.toList == x20.toList) then
    (some (Sum.inr (Sum.inr s7)))
    else
    (some (Sum.inl (IntKind.wrap .i64 (s7 + 1)))))
  else
  (some (Sum.inr (Sum.inl ())))
theorem slices_Index_l17_ev (a0 : List ByteArray) (a1 : ByteArray) (s7 : Int) : OLe (slices_Index_l17_c a0 a1 s7) (slices_Index_l17 a0 a1 s7) := by
  unfold slices_Index_l17_c slices_Index_l17
  exact (OLe.cond (OLe.bind (OLe.refl _) (fun _ => (OLe.cond (OLe.refl _) (OLe.refl _)))) (OLe.refl _))
noncomputable def slices_Index_c (a0 : List ByteArray) (a1 : ByteArray) : Option Int :=
  Option.bind (loopF 1000000 (slices_Index_l17_c a0 a1) 0) fun (r5 : (Unit) ⊕ (Int)) =>
  match r5 with
  | Sum.inl r13 => some (-1)
  | Sum.inr v29 => some v29
theorem slices_Index_ev (a0 : List ByteArray) (a1 : ByteArray) : OLe (slices_Index_c a0 a1) (slices_Index a0 a1) := by
  unfold slices_Index_c slices_Index
  exact (OLe.bind (OLe.loop (fun _ => slices_Index_l17_ev _ _ _)) (fun j => by cases j with | inl a => exact (OLe.refl _) | inr b => exact (OLe.refl _)))
noncomputable def slices_Contains_c (a0 : List ByteArray) (a1 : ByteArray) : Option Bool :=
  Option.bind (slices_Index_c a0 a1) fun (y1 : Int) =>
  some (decide (y1 ≥ 0))
theorem slices_Contains_ev (a0 : List ByteArray) (a1 : ByteArray) : OLe (slices_Contains_c a0 a1) (slices_Contains a0 a1) := by
  unfold slices_Contains_c slices_Contains
  exact (OLe.bind (slices_Index_ev _ _) (fun _ => (OLe.refl _)))
noncomputable def labels_named_l33_c (a2 : Bool) (l11 : List Int) : Int → Option ((Int) ⊕ ((Unit) ⊕ (Bool))) := fun s23 =>
  bif (decide (s23 < (l11.length : Int))) then
  (Option.bind (ix l11 s23) fun (x36 : Int) =>
    bif (((!(labels_letter x36)) && (!(labels_digit x36))) && (!(a2 && (x36 == 58)))) then
    (some (Sum.inr (Sum.inr false)))
    else
    (some (Sum.inl (IntKind.wrap .i64 (s23 + 1)))))
  else
  (some (Sum.inr (Sum.inl ())))
theorem labels_named_l33_ev (a2 : Bool) (l11 : List Int) (s23 : Int) : OLe (labels_named_l33_c a2 l11 s23) (labels_named_l33 a2 l11 s23) := by
  unfold labels_named_l33_c labels_named_l33
  exact (OLe.cond (OLe.bind (OLe.refl _) (fun _ => (OLe.cond (OLe.refl _) (OLe.refl _)))) (OLe.refl _))
noncomputable def labels_named_c (a0 : ByteArray) (a1 : Int) (a2 : Bool) : Option Bool :=
  Option.bind (bif (a0.toList == (⟨#[]⟩ : ByteArray).toList) then
    (some true)
    else
    (bif (decide ((a0.size : Int) > a1)) then
      (some true)
      else
      (Option.bind (bx a0 0) fun (c8 : Int) =>
        some (labels_digit c8)))) fun (j1 : Bool) =>
  bif j1 then
  (some false)
  else
  (Option.bind (sb a0) fun (l11 : List Int) =>
    Option.bind (loopF 1000000 (labels_named_l33_c a2 l11) 0) fun (r21 : (Unit) ⊕ (Bool)) =>
    match r21 with
    | Sum.inl r29 => some true
    | Sum.inr v54 => some v54)
theorem labels_named_ev (a0 : ByteArray) (a1 : Int) (a2 : Bool) : OLe (labels_named_c a0 a1 a2) (labels_named a0 a1 a2) := by
  unfold labels_named_c labels_named
  exact (OLe.bind (OLe.cond (OLe.refl _) (OLe.cond (OLe.refl _) (OLe.bind (OLe.refl _) (fun _ => (OLe.refl _))))) (fun _ => (OLe.cond (OLe.refl _) (OLe.bind (OLe.refl _) (fun _ => (OLe.bind (OLe.loop (fun _ => labels_named_l33_ev _ _ _)) (fun j => by cases j with | inl a => exact (OLe.refl _) | inr b => exact (OLe.refl _))))))))
noncomputable def labels_Name_c (a0 : ByteArray) : Option Bool :=
  Option.bind (labels_named_c a0 64 false) fun (y1 : Bool) =>
  some y1
theorem labels_Name_ev (a0 : ByteArray) : OLe (labels_Name_c a0) (labels_Name a0) := by
  unfold labels_Name_c labels_Name
  exact (OLe.bind (labels_named_ev _ _ _) (fun _ => (OLe.refl _)))
noncomputable def utf8_ValidString_c (a0 : ByteArray) : Option Bool := utf8_ValidString a0
theorem utf8_ValidString_ev (a0 : ByteArray) : OLe (utf8_ValidString_c a0) (utf8_ValidString a0) := OLe.refl _
noncomputable def labels_value_c (a0 : ByteArray) : Option Int :=
  bif (a0.toList == (⟨#[]⟩ : ByteArray).toList) then
  (some 41)
  else
  (bif (decide ((a0.size : Int) > 256)) then
    (some 4)
    else
    (Option.bind (utf8_ValidString_c a0) fun (y3 : Bool) =>
      bif (!y3) then
      (some 12)
      else
      (some 0)))
theorem labels_value_ev (a0 : ByteArray) : OLe (labels_value_c a0) (labels_value a0) := by
  unfold labels_value_c labels_value
  exact (OLe.cond (OLe.refl _) (OLe.cond (OLe.refl _) (OLe.bind (utf8_ValidString_ev _) (fun _ => (OLe.cond (OLe.refl _) (OLe.refl _))))))
noncomputable def labels_Right_l18_c (a0 : List S76) : Int → Option ((Int) ⊕ ((Unit) ⊕ (Int × Int))) := fun s8 =>
  bif (decide (s8 < (a0.length : Int))) then
  (Option.bind (ix a0 s8) fun (x21 : S76) =>
    Option.bind (labels_Name_c x21.f0) fun (y30 : Bool) =>
    bif (!y30) then
    (some (Sum.inr (Sum.inr (40, s8))))
    else
    (Option.bind (labels_value_c x21.f1) fun (y33 : Int) =>
      bif (y33 != 0) then
      (some (Sum.inr (Sum.inr (y33, s8))))
      else
      (Option.bind (bif (decide (s8 > 0)) then
          (Option.bind (ix a0 (IntKind.wrap .i64 (s8 - 1))) fun (x42 : S76) =>
            some ((Op.bytesLess x21.f0.toList x42.f0.toList) || (x21.f0.toList == x42.f0.toList)))
          else
          (some false)) fun (j36 : Bool) =>
        bif j36 then
        (some (Sum.inr (Sum.inr (3, s8))))
        else
        (some (Sum.inl (IntKind.wrap .i64 (s8 + 1)))))))
  else
  (some (Sum.inr (Sum.inl ())))
theorem labels_Right_l18_ev (a0 : List S76) (s8 : Int) : OLe (labels_Right_l18_c a0 s8) (labels_Right_l18 a0 s8) := by
  unfold labels_Right_l18_c labels_Right_l18
  exact (OLe.cond (OLe.bind (OLe.refl _) (fun _ => (OLe.bind (labels_Name_ev _) (fun _ => (OLe.cond (OLe.refl _) (OLe.bind (labels_value_ev _) (fun _ => (OLe.cond (OLe.refl _) (OLe.bind (OLe.cond (OLe.bind (OLe.refl _) (fun _ => (OLe.refl _))) (OLe.refl _)) (fun _ => (OLe.cond (OLe.refl _) (OLe.refl _)))))))))))) (OLe.refl _))
noncomputable def labels_Right_c (a0 : List S76) : Option (Int × Int) :=
  bif (decide ((a0.length : Int) > 16)) then
  (some (8, 0))
  else
  (Option.bind (loopF 1000000 (labels_Right_l18_c a0) 0) fun (r6 : (Unit) ⊕ (Int × Int)) =>
    match r6 with
    | Sum.inl r14 => some (0, 0)
    | Sum.inr v51 => some v51)
theorem labels_Right_ev (a0 : List S76) : OLe (labels_Right_c a0) (labels_Right a0) := by
  unfold labels_Right_c labels_Right
  exact (OLe.cond (OLe.refl _) (OLe.bind (OLe.loop (fun _ => labels_Right_l18_ev _ _)) (fun j => by cases j with | inl a => exact (OLe.refl _) | inr b => exact (OLe.refl _))))
noncomputable def slices_Clone_f42_c (a0 : List S76) : Option (List S76) :=
  Option.bind (app ([] : List S76) a0) fun (zs3 : List S76) =>
  some zs3
theorem slices_Clone_f42_ev (a0 : List S76) : OLe (slices_Clone_f42_c a0) (slices_Clone_f42 a0) := by
  unfold slices_Clone_f42_c slices_Clone_f42
  exact (OLe.bind (OLe.refl _) (fun _ => (OLe.refl _)))
noncomputable def slices_CompareFunc_l17_c (a0 : List S76) (a1 : List S76) (a2 : S76 → S76 → Option Int) : Int → Option ((Int) ⊕ ((Unit) ⊕ (Int))) := fun s7 =>
  bif (decide (s7 < (a0.length : Int))) then
  (Option.bind (ix a0 s7) fun (x20 : S76) =>
    bif (decide (s7 ≥ (a1.length : Int))) then
    (some (Sum.inr (Sum.inr 1)))
    else
    (Option.bind (ix a1 s7) fun (x30 : S76) =>
      Option.bind (a2 x20 x30) fun (y40 : Int) =>
      bif (y40 != 0) then
      (some (Sum.inr (Sum.inr y40)))
      else
      (some (Sum.inl (IntKind.wrap .i64 (s7 + 1))))))
  else
  (some (Sum.inr (Sum.inl ())))
theorem slices_CompareFunc_l17_ev (a0 : List S76) (a1 : List S76) {a2 a2' : S76 → S76 → Option Int} (ha2 : ∀ x0 x1, OLe (a2 x0 x1) (a2' x0 x1)) (s7 : Int) : OLe (slices_CompareFunc_l17_c a0 a1 a2 s7) (slices_CompareFunc_l17 a0 a1 a2' s7) := by
  unfold slices_CompareFunc_l17_c slices_CompareFunc_l17
  exact (OLe.cond (OLe.bind (OLe.refl _) (fun _ => (OLe.cond (OLe.refl _) (OLe.bind (OLe.refl _) (fun _ => (OLe.bind (ha2 _ _) (fun _ => (OLe.cond (OLe.refl _) (OLe.refl _))))))))) (OLe.refl _))
noncomputable def slices_CompareFunc_c (a0 : List S76) (a1 : List S76) (a2 : S76 → S76 → Option Int) : Option Int :=
  Option.bind (loopF 1000000 (slices_CompareFunc_l17_c a0 a1 a2) 0) fun (r5 : (Unit) ⊕ (Int)) =>
  match r5 with
  | Sum.inl r13 => bif (decide ((a0.length : Int) < (a1.length : Int))) then
    (some (-1))
    else
    (some 0)
  | Sum.inr v43 => some v43
theorem slices_CompareFunc_ev (a0 : List S76) (a1 : List S76) {a2 a2' : S76 → S76 → Option Int} (ha2 : ∀ x0 x1, OLe (a2 x0 x1) (a2' x0 x1)) : OLe (slices_CompareFunc_c a0 a1 a2) (slices_CompareFunc a0 a1 a2') := by
  unfold slices_CompareFunc_c slices_CompareFunc
  exact (OLe.bind (OLe.loop (fun _ => slices_CompareFunc_l17_ev _ _ ha2 _)) (fun j => by cases j with | inl a => exact (OLe.cond (OLe.refl _) (OLe.refl _)) | inr b => exact (OLe.refl _)))
noncomputable def labels_Compare_c (a0 : List S76) (a1 : List S76) : Option Int :=
  Option.bind (slices_CompareFunc_c a0 a1 (fun x0 x1 => some (labels_Compare_1 x0 x1))) fun (y1 : Int) =>
  some y1
theorem labels_Compare_ev (a0 : List S76) (a1 : List S76) : OLe (labels_Compare_c a0 a1) (labels_Compare a0 a1) := by
  unfold labels_Compare_c labels_Compare
  exact (OLe.bind (slices_CompareFunc_ev _ _ (fun _ _ => OLe.refl _)) (fun _ => (OLe.refl _)))
noncomputable def vec_Vector_1_c (a0 : S38) (a1 : S38) : Option Int :=
  Option.bind (labels_Compare_c a0.f0 a1.f0) fun (y3 : Int) =>
  some y3
theorem vec_Vector_1_ev (a0 : S38) (a1 : S38) : OLe (vec_Vector_1_c a0 a1) (vec_Vector_1 a0 a1) := by
  unfold vec_Vector_1_c vec_Vector_1
  exact (OLe.bind (labels_Compare_ev _ _) (fun _ => (OLe.refl _)))
noncomputable def vec_Vector_l18_c (a0 : List S38) : Int → Option ((Int) ⊕ ((Unit) ⊕ ((List S38) × Int))) := fun s8 =>
  bif (decide (s8 < (a0.length : Int))) then
  (Option.bind (ix a0 s8) fun (x21 : S38) =>
    Option.bind (labels_Right_c x21.f0) fun (y35 : Int × Int) =>
    bif (y35.1 != 0) then
    (some (Sum.inr (Sum.inr ([], 41))))
    else
    (some (Sum.inl (IntKind.wrap .i64 (s8 + 1)))))
  else
  (some (Sum.inr (Sum.inl ())))
theorem vec_Vector_l18_ev (a0 : List S38) (s8 : Int) : OLe (vec_Vector_l18_c a0 s8) (vec_Vector_l18 a0 s8) := by
  unfold vec_Vector_l18_c vec_Vector_l18
  exact (OLe.cond (OLe.bind (OLe.refl _) (fun _ => (OLe.bind (labels_Right_ev _) (fun _ => (OLe.cond (OLe.refl _) (OLe.refl _)))))) (OLe.refl _))
noncomputable def vec_Vector_l65_c (a0 : List S38) : ((List S38) × Int) → Option (((List S38) × Int) ⊕ ((List S38))) := fun s48 =>
  bif (decide (s48.2 < (a0.length : Int))) then
  (Option.bind (ix a0 s48.2) fun (x68 : S38) =>
    Option.bind (slices_Clone_f42_c x68.f0) fun (y82 : (List S76)) =>
    Option.bind (app s48.1 [(⟨y82, x68.f1⟩ : S38)]) fun (zs99 : List S38) =>
    some (Sum.inl (zs99, (IntKind.wrap .i64 (s48.2 + 1)))))
  else
  (some (Sum.inr s48.1))
theorem vec_Vector_l65_ev (a0 : List S38) (s48 : (List S38) × Int) : OLe (vec_Vector_l65_c a0 s48) (vec_Vector_l65 a0 s48) := by
  unfold vec_Vector_l65_c vec_Vector_l65
  exact (OLe.cond (OLe.bind (OLe.refl _) (fun _ => (OLe.bind (slices_Clone_f42_ev _) (fun _ => (OLe.bind (OLe.refl _) (fun _ => (OLe.refl _))))))) (OLe.refl _))
noncomputable def vec_Vector_l131_c (zs105 : List S38) : Int → Option ((Int) ⊕ ((Unit) ⊕ ((List S38) × Int))) := fun s121 =>
  bif (decide (s121 < (zs105.length : Int))) then
  (Option.bind (ix zs105 (IntKind.wrap .i64 (s121 - 1))) fun (x134 : S38) =>
    Option.bind (ix zs105 s121) fun (x148 : S38) =>
    Option.bind (labels_Compare_c x134.f0 x148.f0) fun (y162 : Int) =>
    bif (y162 == 0) then
    (some (Sum.inr (Sum.inr ([], 150))))
    else
    (some (Sum.inl (IntKind.wrap .i64 (s121 + 1)))))
  else
  (some (Sum.inr (Sum.inl ())))
theorem vec_Vector_l131_ev (zs105 : List S38) (s121 : Int) : OLe (vec_Vector_l131_c zs105 s121) (vec_Vector_l131 zs105 s121) := by
  unfold vec_Vector_l131_c vec_Vector_l131
  exact (OLe.cond (OLe.bind (OLe.refl _) (fun _ => (OLe.bind (OLe.refl _) (fun _ => (OLe.bind (labels_Compare_ev _ _) (fun _ => (OLe.cond (OLe.refl _) (OLe.refl _)))))))) (OLe.refl _))
noncomputable def vec_Vector_c (a0 : List S38) : Option ((List S38) × Int) :=
  bif (decide ((a0.length : Int) > 1000)) then
  (some ([], 7))
  else
  (Option.bind (loopF 1000000 (vec_Vector_l18_c a0) 0) fun (r6 : (Unit) ⊕ ((List S38) × Int)) =>
    match r6 with
    | Sum.inl r14 => Option.bind (loopF 1000000 (vec_Vector_l65_c a0) ([], 0)) fun (r46 : (List S38)) =>
      sortBindC vec_Vector_1_c r46 fun (zs105 : List S38) =>
      Option.bind (loopF 1000000 (vec_Vector_l131_c zs105) 1) fun (r119 : (Unit) ⊕ ((List S38) × Int)) =>
      match r119 with
      | Sum.inl r127 => some (zs105, 0)
      | Sum.inr v165 => some v165
    | Sum.inr v166 => some v166)
theorem vec_Vector_ev (a0 : List S38) : OLe (vec_Vector_c a0) (vec_Vector a0) := by
  unfold vec_Vector_c vec_Vector
  exact (OLe.cond (OLe.refl _) (OLe.bind (OLe.loop (fun _ => vec_Vector_l18_ev _ _)) (fun j => by cases j with | inl a => exact (OLe.bind (OLe.loop (fun _ => vec_Vector_l65_ev _ _)) (fun _ => (OLe.sort (fun _ _ => vec_Vector_1_ev _ _) (fun _ => (OLe.bind (OLe.loop (fun _ => vec_Vector_l131_ev _ _)) (fun j => by cases j with | inl a => exact (OLe.refl _) | inr b => exact (OLe.refl _))))))) | inr b => exact (OLe.refl _))))
noncomputable def aggr_wrong_l17_c (a0 : List ByteArray) : Int → Option ((Int) ⊕ ((Unit) ⊕ (Int))) := fun s7 =>
  bif (decide (s7 < (a0.length : Int))) then
  (Option.bind (ix a0 s7) fun (x20 : ByteArray) =>
    Option.bind (labels_Name_c x20) fun (y28 : Bool) =>
    bif (!y28) then
    (some (Sum.inr (Sum.inr 40)))
    else
    (some (Sum.inl (IntKind.wrap .i64 (s7 + 1)))))
  else
  (some (Sum.inr (Sum.inl ())))
theorem aggr_wrong_l17_ev (a0 : List ByteArray) (s7 : Int) : OLe (aggr_wrong_l17_c a0 s7) (aggr_wrong_l17 a0 s7) := by
  unfold aggr_wrong_l17_c aggr_wrong_l17
  exact (OLe.cond (OLe.bind (OLe.refl _) (fun _ => (OLe.bind (labels_Name_ev _) (fun _ => (OLe.cond (OLe.refl _) (OLe.refl _)))))) (OLe.refl _))
noncomputable def aggr_wrong_c (a0 : List ByteArray) : Option Int :=
  Option.bind (loopF 1000000 (aggr_wrong_l17_c a0) 0) fun (r5 : (Unit) ⊕ (Int)) =>
  match r5 with
  | Sum.inl r13 => some 0
  | Sum.inr v31 => some v31
theorem aggr_wrong_ev (a0 : List ByteArray) : OLe (aggr_wrong_c a0) (aggr_wrong a0) := by
  unfold aggr_wrong_c aggr_wrong
  exact (OLe.bind (OLe.loop (fun _ => aggr_wrong_l17_ev _ _)) (fun j => by cases j with | inl a => exact (OLe.refl _) | inr b => exact (OLe.refl _)))
noncomputable def slices_Clone_f76_c (a0 : List ByteArray) : Option (List ByteArray) :=
  Option.bind (app ([] : List ByteArray) a0) fun (zs3 : List ByteArray) =>
  some zs3
theorem slices_Clone_f76_ev (a0 : List ByteArray) : OLe (slices_Clone_f76_c a0) (slices_Clone_f76 a0) := by
  unfold slices_Clone_f76_c slices_Clone_f76
  exact (OLe.bind (OLe.refl _) (fun _ => (OLe.refl _)))
noncomputable def labels_right_c (a0 : List S76) : Option Int :=
  Option.bind (labels_Right_c a0) fun (y1 : Int × Int) =>
  some y1.1
theorem labels_right_ev (a0 : List S76) : OLe (labels_right_c a0) (labels_right a0) := by
  unfold labels_right_c labels_right
  exact (OLe.bind (labels_Right_ev _) (fun _ => (OLe.refl _)))
noncomputable def labels_pick_l28_c (a0 : List S76) (a1 : Bool) (a2 : List ByteArray) : ((List S76) × Int) → Option (((List S76) × Int) ⊕ ((List S76))) := fun s11 =>
  bif (decide (s11.2 < (a0.length : Int))) then
  (Option.bind (ix a0 s11.2) fun (x31 : S76) =>
    Option.bind (slices_Contains_c a2 x31.f0) fun (y40 : Bool) =>
    Option.bind (bif (y40 == a1) then
      (Option.bind (app s11.1 [x31]) fun (zs56 : List S76) =>
        some zs56)
      else
      (some s11.1)) fun (j42 : (List S76)) =>
    some (Sum.inl (j42, (IntKind.wrap .i64 (s11.2 + 1)))))
  else
  (some (Sum.inr s11.1))
theorem labels_pick_l28_ev (a0 : List S76) (a1 : Bool) (a2 : List ByteArray) (s11 : (List S76) × Int) : OLe (labels_pick_l28_c a0 a1 a2 s11) (labels_pick_l28 a0 a1 a2 s11) := by
  unfold labels_pick_l28_c labels_pick_l28
  exact (OLe.cond (OLe.bind (OLe.refl _) (fun _ => (OLe.bind (slices_Contains_ev _ _) (fun _ => (OLe.bind (OLe.cond (OLe.bind (OLe.refl _) (fun _ => (OLe.refl _))) (OLe.refl _)) (fun _ => (OLe.refl _))))))) (OLe.refl _))
noncomputable def labels_pick_c (a0 : List S76) (a1 : Bool) (a2 : List ByteArray) : Option (List S76) :=
  Option.bind (loopF 1000000 (labels_pick_l28_c a0 a1 a2) ([], 0)) fun (r9 : (List S76)) =>
  some r9
theorem labels_pick_ev (a0 : List S76) (a1 : Bool) (a2 : List ByteArray) : OLe (labels_pick_c a0 a1 a2) (labels_pick a0 a1 a2) := by
  unfold labels_pick_c labels_pick
  exact (OLe.bind (OLe.loop (fun _ => labels_pick_l28_ev _ _ _ _)) (fun _ => (OLe.refl _)))
noncomputable def labels_Without_c (a0 : List S76) (a1 : List ByteArray) : Option ((List S76) × Int) :=
  Option.bind (labels_right_c a0) fun (y1 : Int) =>
  bif (y1 != 0) then
  (some ([], y1))
  else
  (Option.bind (labels_pick_c a0 false a1) fun (y4 : (List S76)) =>
    some (y4, 0))
theorem labels_Without_ev (a0 : List S76) (a1 : List ByteArray) : OLe (labels_Without_c a0 a1) (labels_Without a0 a1) := by
  unfold labels_Without_c labels_Without
  exact (OLe.bind (labels_right_ev _) (fun _ => (OLe.cond (OLe.refl _) (OLe.bind (labels_pick_ev _ _ _) (fun _ => (OLe.refl _))))))
noncomputable def labels_Keep_c (a0 : List S76) (a1 : List ByteArray) : Option ((List S76) × Int) :=
  Option.bind (labels_right_c a0) fun (y1 : Int) =>
  bif (y1 != 0) then
  (some ([], y1))
  else
  (Option.bind (labels_pick_c a0 true a1) fun (y4 : (List S76)) =>
    some (y4, 0))
theorem labels_Keep_ev (a0 : List S76) (a1 : List ByteArray) : OLe (labels_Keep_c a0 a1) (labels_Keep a0 a1) := by
  unfold labels_Keep_c labels_Keep
  exact (OLe.bind (labels_right_ev _) (fun _ => (OLe.cond (OLe.refl _) (OLe.bind (labels_pick_ev _ _ _) (fun _ => (OLe.refl _))))))
noncomputable def aggr_group_c (a0 : List S76) (a1 : List ByteArray) (a2 : Bool) : Option (List S76) :=
  bif a2 then
  (Option.bind (slices_Clone_f76_c a1) fun (y2 : (List ByteArray)) =>
    Option.bind (app y2 [(⟨#[95, 95, 110, 97, 109, 101, 95, 95]⟩ : ByteArray)]) fun (zs15 : List ByteArray) =>
    Option.bind (labels_Without_c a0 zs15) fun (y25 : (List S76) × Int) =>
    some y25.1)
  else
  (Option.bind (labels_Keep_c a0 a1) fun (y34 : (List S76) × Int) =>
    some y34.1)
theorem aggr_group_ev (a0 : List S76) (a1 : List ByteArray) (a2 : Bool) : OLe (aggr_group_c a0 a1 a2) (aggr_group a0 a1 a2) := by
  unfold aggr_group_c aggr_group
  exact (OLe.cond (OLe.bind (slices_Clone_f76_ev _) (fun _ => (OLe.bind (OLe.refl _) (fun _ => (OLe.bind (labels_Without_ev _ _) (fun _ => (OLe.refl _))))))) (OLe.bind (labels_Keep_ev _ _) (fun _ => (OLe.refl _))))
noncomputable def vint_joined_c (a0 : List Int) (a1 : List Int) : Option (List Int) :=
  Option.bind (mkrow (0 : Int) 0 (IntKind.wrap .i64 ((a0.length : Int) + (a1.length : Int)))) fun (xs1 : List Int) =>
  Option.bind (app xs1 a0) fun (zs6 : List Int) =>
  Option.bind (app zs6 a1) fun (zs12 : List Int) =>
  some zs12
theorem vint_joined_ev (a0 : List Int) (a1 : List Int) : OLe (vint_joined_c a0 a1) (vint_joined a0 a1) := by
  unfold vint_joined_c vint_joined
  exact (OLe.bind (OLe.refl _) (fun _ => (OLe.bind (OLe.refl _) (fun _ => (OLe.bind (OLe.refl _) (fun _ => (OLe.refl _)))))))
noncomputable def vint_PutU_l28_c : (Int × (List Int)) → Option ((Int × (List Int)) ⊕ (Int × (List Int))) := fun s11 =>
  bif (decide (s11.1 ≥ 128)) then
  (Option.bind (app s11.2 [(bitOr .u8 (IntKind.wrap .u8 s11.1) 128)]) fun (zs35 : List Int) =>
    some (Sum.inl ((shr .u64 s11.1 7), zs35)))
  else
  (some (Sum.inr (s11.1, s11.2)))
theorem vint_PutU_l28_ev  (s11 : Int × (List Int)) : OLe (vint_PutU_l28_c  s11) (vint_PutU_l28  s11) := by
  unfold vint_PutU_l28_c vint_PutU_l28
  exact (OLe.cond (OLe.bind (OLe.refl _) (fun _ => (OLe.refl _))) (OLe.refl _))
noncomputable def vint_PutU_c (a0 : List Int) (a1 : Int) : Option (List Int) :=
  Option.bind (loopF 1000000 vint_PutU_l28_c (a1, [])) fun (r9 : Int × (List Int)) =>
  Option.bind (app r9.2 [(IntKind.wrap .u8 r9.1)]) fun (zs45 : List Int) =>
  Option.bind (vint_joined_c a0 zs45) fun (y55 : (List Int)) =>
  some y55
theorem vint_PutU_ev (a0 : List Int) (a1 : Int) : OLe (vint_PutU_c a0 a1) (vint_PutU a0 a1) := by
  unfold vint_PutU_c vint_PutU
  exact (OLe.bind (OLe.loop (fun _ => vint_PutU_l28_ev  _)) (fun _ => (OLe.bind (OLe.refl _) (fun _ => (OLe.bind (vint_joined_ev _ _) (fun _ => (OLe.refl _)))))))
noncomputable def vint_PutText_c (a0 : List Int) (a1 : ByteArray) : Option (List Int) :=
  Option.bind (vint_PutU_c a0 (IntKind.wrap .u64 (a1.size : Int))) fun (y1 : (List Int)) =>
  Option.bind (sb a1) fun (l10 : List Int) =>
  Option.bind (vint_joined_c y1 l10) fun (y21 : (List Int)) =>
  some y21
theorem vint_PutText_ev (a0 : List Int) (a1 : ByteArray) : OLe (vint_PutText_c a0 a1) (vint_PutText a0 a1) := by
  unfold vint_PutText_c vint_PutText
  exact (OLe.bind (vint_PutU_ev _ _) (fun _ => (OLe.bind (OLe.refl _) (fun _ => (OLe.bind (vint_joined_ev _ _) (fun _ => (OLe.refl _)))))))
noncomputable def labels_Put_l40_c (a1 : List S76) : ((List Int) × Int) → Option (((List Int) × Int) ⊕ ((List Int))) := fun s23 =>
  bif (decide (s23.2 < (a1.length : Int))) then
  (Option.bind (ix a1 s23.2) fun (x43 : S76) =>
    Option.bind (vint_PutText_c s23.1 x43.f0) fun (y56 : (List Int)) =>
    Option.bind (vint_PutText_c y56 x43.f1) fun (y69 : (List Int)) =>
    some (Sum.inl (y69, (IntKind.wrap .i64 (s23.2 + 1)))))
  else
  (some (Sum.inr s23.1))
theorem labels_Put_l40_ev (a1 : List S76) (s23 : (List Int) × Int) : OLe (labels_Put_l40_c a1 s23) (labels_Put_l40 a1 s23) := by
  unfold labels_Put_l40_c labels_Put_l40
  exact (OLe.cond (OLe.bind (OLe.refl _) (fun _ => (OLe.bind (vint_PutText_ev _ _) (fun _ => (OLe.bind (vint_PutText_ev _ _) (fun _ => (OLe.refl _))))))) (OLe.refl _))
noncomputable def labels_Put_c (a0 : List Int) (a1 : List S76) : Option ((List Int) × Int) :=
  Option.bind (labels_right_c a1) fun (y1 : Int) =>
  bif (y1 != 0) then
  (some ([], y1))
  else
  (Option.bind (vint_PutU_c a0 (IntKind.wrap .u64 (a1.length : Int))) fun (y4 : (List Int)) =>
    Option.bind (loopF 1000000 (labels_Put_l40_c a1) (y4, 0)) fun (r21 : (List Int)) =>
    some (r21, 0))
theorem labels_Put_ev (a0 : List Int) (a1 : List S76) : OLe (labels_Put_c a0 a1) (labels_Put a0 a1) := by
  unfold labels_Put_c labels_Put
  exact (OLe.bind (labels_right_ev _) (fun _ => (OLe.cond (OLe.refl _) (OLe.bind (vint_PutU_ev _ _) (fun _ => (OLe.bind (OLe.loop (fun _ => labels_Put_l40_ev _ _)) (fun _ => (OLe.refl _))))))))
noncomputable def aggr_Groups_1_c (a0 : Int) (a1 : Int) (a2 : List (List S76)) : Option Int :=
  Option.bind (ix a2 a0) fun (x1 : List S76) =>
  Option.bind (ix a2 a1) fun (x12 : List S76) =>
  Option.bind (labels_Compare_c x1 x12) fun (y23 : Int) =>
  some y23
theorem aggr_Groups_1_ev (a0 : Int) (a1 : Int) (a2 : List (List S76)) : OLe (aggr_Groups_1_c a0 a1 a2) (aggr_Groups_1 a0 a1 a2) := by
  unfold aggr_Groups_1_c aggr_Groups_1
  exact (OLe.bind (OLe.refl _) (fun _ => (OLe.bind (OLe.refl _) (fun _ => (OLe.bind (labels_Compare_ev _ _) (fun _ => (OLe.refl _)))))))
noncomputable def aggr_Groups_l61_c (a1 : List ByteArray) (a2 : Bool) (y1 : (List S38) × Int) : ((List (List S76)) × (List (ByteArray × Int)) × (List (List S38)) × Int) → Option (((List (List S76)) × (List (ByteArray × Int)) × (List (List S38)) × Int) ⊕ ((List (List S38)) × (List (List S76)))) := fun s34 =>
  bif (decide (s34.2.2.2 < (y1.1.length : Int))) then
  (Option.bind (ix y1.1 s34.2.2.2) fun (x64 : S38) =>
    Option.bind (aggr_group_c x64.f0 a1 a2) fun (y79 : (List S76)) =>
    Option.bind (labels_Put_c [] y79) fun (y92 : (List Int) × Int) =>
    Option.bind (bif (!((mget Ky.str s34.2.1 (ofBytes y92.1)).isSome)) then
      (Option.bind (app s34.1 [y79]) fun (zs123 : List (List S76)) =>
        Option.bind (app s34.2.2.1 [([] : List S38)]) fun (zs133 : List (List S38)) =>
        some ((mput Ky.str s34.2.1 (ofBytes y92.1) (s34.2.2.1.length : Int)), zs133, (s34.2.2.1.length : Int), zs123))
      else
      (some (s34.2.1, s34.2.2.1, ((mget Ky.str s34.2.1 (ofBytes y92.1)).getD 0), s34.1))) fun (j101 : (List (ByteArray × Int)) × (List (List S38)) × Int × (List (List S76))) =>
    Option.bind (ix j101.2.1 j101.2.2.1) fun (x140 : List S38) =>
    Option.bind (app x140 [x64]) fun (zs160 : List S38) =>
    some (Sum.inl (j101.2.2.2, j101.1, (lset j101.2.1 j101.2.2.1 zs160), (IntKind.wrap .i64 (s34.2.2.2 + 1)))))
  else
  (some (Sum.inr (s34.2.2.1, s34.1)))
theorem aggr_Groups_l61_ev (a1 : List ByteArray) (a2 : Bool) (y1 : (List S38) × Int) (s34 : (List (List S76)) × (List (ByteArray × Int)) × (List (List S38)) × Int) : OLe (aggr_Groups_l61_c a1 a2 y1 s34) (aggr_Groups_l61 a1 a2 y1 s34) := by
  unfold aggr_Groups_l61_c aggr_Groups_l61
  exact (OLe.cond (OLe.bind (OLe.refl _) (fun _ => (OLe.bind (aggr_group_ev _ _ _) (fun _ => (OLe.bind (labels_Put_ev _ _) (fun _ => (OLe.bind (OLe.cond (OLe.bind (OLe.refl _) (fun _ => (OLe.bind (OLe.refl _) (fun _ => (OLe.refl _))))) (OLe.refl _)) (fun _ => (OLe.bind (OLe.refl _) (fun _ => (OLe.bind (OLe.refl _) (fun _ => (OLe.refl _))))))))))))) (OLe.refl _))
noncomputable def aggr_Groups_l198_c (xs169 : List Int) : ((List Int) × Int) → Option (((List Int) × Int) ⊕ ((List Int))) := fun s183 =>
  bif (decide (s183.2 < (xs169.length : Int))) then
  (Option.bind (ix s183.1 s183.2) fun (x201 : Int) =>
    some (Sum.inl ((lset s183.1 s183.2 s183.2), (IntKind.wrap .i64 (s183.2 + 1)))))
  else
  (some (Sum.inr s183.1))
theorem aggr_Groups_l198_ev (xs169 : List Int) (s183 : (List Int) × Int) : OLe (aggr_Groups_l198_c xs169 s183) (aggr_Groups_l198 xs169 s183) := by
  unfold aggr_Groups_l198_c aggr_Groups_l198
  exact (OLe.cond (OLe.bind (OLe.refl _) (fun _ => (OLe.refl _))) (OLe.refl _))
noncomputable def aggr_Groups_l270_c (r32 : (List (List S38)) × (List (List S76))) (zs218 : List Int) : ((List (List S38)) × Int) → Option (((List (List S38)) × Int) ⊕ ((List (List S38)))) := fun s253 =>
  bif (decide (s253.2 < (zs218.length : Int))) then
  (Option.bind (ix zs218 s253.2) fun (x273 : Int) =>
    Option.bind (ix r32.1 x273) fun (x282 : List S38) =>
    Option.bind (app s253.1 [x282]) fun (zs297 : List (List S38)) =>
    some (Sum.inl (zs297, (IntKind.wrap .i64 (s253.2 + 1)))))
  else
  (some (Sum.inr s253.1))
theorem aggr_Groups_l270_ev (r32 : (List (List S38)) × (List (List S76))) (zs218 : List Int) (s253 : (List (List S38)) × Int) : OLe (aggr_Groups_l270_c r32 zs218 s253) (aggr_Groups_l270 r32 zs218 s253) := by
  unfold aggr_Groups_l270_c aggr_Groups_l270
  exact (OLe.cond (OLe.bind (OLe.refl _) (fun _ => (OLe.bind (OLe.refl _) (fun _ => (OLe.bind (OLe.refl _) (fun _ => (OLe.refl _))))))) (OLe.refl _))
noncomputable def aggr_Groups_c (a0 : List S38) (a1 : List ByteArray) (a2 : Bool) : Option ((List (List S38)) × Int) :=
  Option.bind (vec_Vector_c a0) fun (y1 : (List S38) × Int) =>
  bif (y1.2 != 0) then
  (some ([], y1.2))
  else
  (Option.bind (aggr_wrong_c a1) fun (y11 : Int) =>
    bif (y11 != 0) then
    (some ([], y11))
    else
    (Option.bind (loopF 1000000 (aggr_Groups_l61_c a1 a2 y1) ([], ([] : List (ByteArray × Int)), [], 0)) fun (r32 : (List (List S38)) × (List (List S76))) =>
      Option.bind (mkrow (0 : Int) (r32.1.length : Int) (r32.1.length : Int)) fun (xs169 : List Int) =>
      Option.bind (loopF 1000000 (aggr_Groups_l198_c xs169) (xs169, 0)) fun (r181 : (List Int)) =>
      sortBindC (fun x0 x1 => aggr_Groups_1_c x0 x1 r32.2) r181 fun (zs218 : List Int) =>
      Option.bind (loopF 1000000 (aggr_Groups_l270_c r32 zs218) ([], 0)) fun (r251 : (List (List S38))) =>
      some (r251, 0)))
theorem aggr_Groups_ev (a0 : List S38) (a1 : List ByteArray) (a2 : Bool) : OLe (aggr_Groups_c a0 a1 a2) (aggr_Groups a0 a1 a2) := by
  unfold aggr_Groups_c aggr_Groups
  exact (OLe.bind (vec_Vector_ev _) (fun _ => (OLe.cond (OLe.refl _) (OLe.bind (aggr_wrong_ev _) (fun _ => (OLe.cond (OLe.refl _) (OLe.bind (OLe.loop (fun _ => aggr_Groups_l61_ev _ _ _ _)) (fun _ => (OLe.bind (OLe.refl _) (fun _ => (OLe.bind (OLe.loop (fun _ => aggr_Groups_l198_ev _ _)) (fun _ => (OLe.sort (fun _ _ => aggr_Groups_1_ev _ _ _) (fun _ => (OLe.bind (OLe.loop (fun _ => aggr_Groups_l270_ev _ _ _)) (fun _ => (OLe.refl _)))))))))))))))))
noncomputable def aggr_Number_l96_c (x51 : List S38) : ((List Fl) × Int) → Option (((List Fl) × Int) ⊕ ((List Fl))) := fun s79 =>
  bif (decide (s79.2 < (x51.length : Int))) then
  (Option.bind (ix x51 s79.2) fun (x99 : S38) =>
    Option.bind (app s79.1 [x99.f1]) fun (zs117 : List Fl) =>
    some (Sum.inl (zs117, (IntKind.wrap .i64 (s79.2 + 1)))))
  else
  (some (Sum.inr s79.1))
theorem aggr_Number_l96_ev (x51 : List S38) (s79 : (List Fl) × Int) : OLe (aggr_Number_l96_c x51 s79) (aggr_Number_l96 x51 s79) := by
  unfold aggr_Number_l96_c aggr_Number_l96
  exact (OLe.cond (OLe.bind (OLe.refl _) (fun _ => (OLe.bind (OLe.refl _) (fun _ => (OLe.refl _))))) (OLe.refl _))
noncomputable def aggr_Number_l48_c (a0 : ByteArray) (a2 : List ByteArray) (a3 : Bool) (a4 : Fl) (y11 : (List (List S38)) × Int) : ((List S38) × Int) → Option (((List S38) × Int) ⊕ ((List S38))) := fun s31 =>
  bif (decide (s31.2 < (y11.1.length : Int))) then
  (Option.bind (ix y11.1 s31.2) fun (x51 : List S38) =>
    bif ((aggr_fold a0) == 0) then
    (none)
    else
    (Option.bind (loopF 1000000 (aggr_Number_l96_c x51) ([], 0)) fun (r77 : (List Fl)) =>
      Option.bind (ix x51 0) fun (x123 : S38) =>
      Option.bind (aggr_group_c x123.f0 a2 a3) fun (y136 : (List S76)) =>
      Option.bind (tabf_48_c (aggr_fold a0) r77 a4) fun (y152 : Fl) =>
      Option.bind (app s31.1 [(⟨y136, (aggr_told y152)⟩ : S38)]) fun (zs171 : List S38) =>
      some (Sum.inl (zs171, (IntKind.wrap .i64 (s31.2 + 1))))))
  else
  (some (Sum.inr s31.1))
theorem aggr_Number_l48_ev (a0 : ByteArray) (a2 : List ByteArray) (a3 : Bool) (a4 : Fl) (y11 : (List (List S38)) × Int) (s31 : (List S38) × Int) : OLe (aggr_Number_l48_c a0 a2 a3 a4 y11 s31) (aggr_Number_l48 a0 a2 a3 a4 y11 s31) := by
  unfold aggr_Number_l48_c aggr_Number_l48
  exact (OLe.cond (OLe.bind (OLe.refl _) (fun _ => (OLe.cond (OLe.refl _) (OLe.bind (OLe.loop (fun _ => aggr_Number_l96_ev _ _)) (fun _ => (OLe.bind (OLe.refl _) (fun _ => (OLe.bind (aggr_group_ev _ _ _) (fun _ => (OLe.bind (tabf_48_ev _ _ _) (fun _ => (OLe.bind (OLe.refl _) (fun _ => (OLe.refl _)))))))))))))) (OLe.refl _))
noncomputable def aggr_Number_c (a0 : ByteArray) (a1 : List S38) (a2 : List ByteArray) (a3 : Bool) (a4 : Fl) : Option ((List S38) × Int) :=
  Option.bind (slices_Contains_c aggr_Words a0) fun (y8 : Bool) =>
  bif (!y8) then
  (some ([], 60))
  else
  (Option.bind (aggr_Groups_c a1 a2 a3) fun (y11 : (List (List S38)) × Int) =>
    bif (y11.2 != 0) then
    (some ([], y11.2))
    else
    (Option.bind (loopF 1000000 (aggr_Number_l48_c a0 a2 a3 a4 y11) ([], 0)) fun (r29 : (List S38)) =>
      Option.bind (vec_Vector_c r29) fun (y181 : (List S38) × Int) =>
      some (y181.1, y181.2)))
theorem aggr_Number_ev (a0 : ByteArray) (a1 : List S38) (a2 : List ByteArray) (a3 : Bool) (a4 : Fl) : OLe (aggr_Number_c a0 a1 a2 a3 a4) (aggr_Number a0 a1 a2 a3 a4) := by
  unfold aggr_Number_c aggr_Number
  exact (OLe.bind (slices_Contains_ev _ _) (fun _ => (OLe.cond (OLe.refl _) (OLe.bind (aggr_Groups_ev _ _ _) (fun _ => (OLe.cond (OLe.refl _) (OLe.bind (OLe.loop (fun _ => aggr_Number_l48_ev _ _ _ _ _ _)) (fun _ => (OLe.bind (vec_Vector_ev _) (fun _ => (OLe.refl _)))))))))))
noncomputable def tocsinlaw16_awake_c : Option Bool :=
  Option.bind (aggr_Number_c (⟨#[115, 117, 109]⟩ : ByteArray) [(⟨[(⟨(⟨#[97]⟩ : ByteArray), (⟨#[49]⟩ : ByteArray)⟩ : S76), (⟨(⟨#[98]⟩ : ByteArray), (⟨#[120]⟩ : ByteArray)⟩ : S76)], (some 4611686018427387904 : Fl)⟩ : S38), (⟨[(⟨(⟨#[97]⟩ : ByteArray), (⟨#[49]⟩ : ByteArray)⟩ : S76), (⟨(⟨#[98]⟩ : ByteArray), (⟨#[121]⟩ : ByteArray)⟩ : S76)], (some 4616189618054758400 : Fl)⟩ : S38)] [(⟨#[97]⟩ : ByteArray)] false (some 0 : Fl)) fun (y27 : (List S38) × Int) =>
  Option.bind (aggr_Fold_c (⟨#[97, 118, 103]⟩ : ByteArray) [(some 4611686018427387904 : Fl), (some 4616189618054758400 : Fl)] (some 0 : Fl)) fun (y44 : Fl × Int) =>
  Option.bind (bif (y27.2 == 0) then
    (bif ((y27.1.length : Int) == 1) then
      (Option.bind (ix y27.1 0) fun (x58 : S38) =>
        bif (fcmp .eql x58.f1 (some 4618441417868443648 : Fl)) then
        (Option.bind (ix y27.1 0) fun (x73 : S38) =>
          bif ((x73.f0.length : Int) == 1) then
          (bif (y44.2 == 0) then
            (some (fcmp .eql y44.1 (some 4613937818241073152 : Fl)))
            else
            (some false))
          else
          (some false))
        else
        (some false))
      else
      (some false))
    else
    (some false)) fun (j51 : Bool) =>
  some j51
theorem tocsinlaw16_awake_ev  : OLe (tocsinlaw16_awake_c ) (tocsinlaw16_awake ) := by
  unfold tocsinlaw16_awake_c tocsinlaw16_awake
  exact (OLe.bind (aggr_Number_ev _ _ _ _ _) (fun _ => (OLe.bind (aggr_Fold_ev _ _ _) (fun _ => (OLe.bind (OLe.cond (OLe.cond (OLe.bind (OLe.refl _) (fun _ => (OLe.cond (OLe.bind (OLe.refl _) (fun _ => (OLe.cond (OLe.cond (OLe.refl _) (OLe.refl _)) (OLe.refl _)))) (OLe.refl _)))) (OLe.refl _)) (OLe.refl _)) (fun _ => (OLe.refl _)))))))
end Go.Proofs.YtkjkkimnjpodiaaGreatDoor

/- What must come of fixed calls comes of them: run out by the kernel. -/
set_option maxRecDepth 100000
namespace Go.Proofs.YtkjkkimnjpodiaaGreatDoor
theorem awake_true : tocsinlaw16_awake = some true := tocsinlaw16_awake_ev _ (by kernel_rfl)
end Go.Proofs.YtkjkkimnjpodiaaGreatDoor

set_option linter.unusedVariables false
set_option linter.unusedSimpArgs false
set_option maxRecDepth 100000
namespace Go.Proofs.YtkjkkimnjpodiaaGreatDoor
open Go.GB Go.Lib
theorem alike_self {a : Fl} (h : ∃ x, a = some x) : tocsinlaw16_alike a a = some true := by
  obtain ⟨x, rfl⟩ := h
  unfold tocsinlaw16_alike
  simp [fbits]
theorem kept_loop {l : List Fl} (hl : l.length < 2147483648) (h : ∀ p ∈ l, ∃ x, p = some x) : loopO (tocsinlaw16_AggrFolds_l50 l l) 0 = some (.inl ()) := by
  rw [up_all (n := l.length) (fun _ => true) (fun i hi => ?_) ?_]
  · rw [show (List.range l.length).all (fun _ => true) = true by simp]; rfl
  · unfold tocsinlaw16_AggrFolds_l50
    rw [show decide ((l.length : Int) < (l.length : Int)) = false from decide_eq_false (by omega)]; rfl
  · unfold tocsinlaw16_AggrFolds_l50
    rw [show decide ((i : Int) < (l.length : Int)) = true from decide_eq_true (by omega)]
    simp only [cond_true, ix_nat, List.getElem?_eq_getElem hi, Option.bind_some, wrap_up (show i < 4294967296 by omega), alike_self (h _ (List.getElem_mem hi)), Bool.not_true, cond_false]
theorem words_loop : loopO tocsinlaw16_AggrFolds_l107 0 = some (.inl ()) := by
  have he : aggr_Words = tocsinref16_Words := rfl
  have hlen : tocsinref16_Words.length = 11 := rfl
  rw [up_all (n := 11) (fun _ => true) (fun i hi => ?_) ?_]
  · rw [show (List.range 11).all (fun _ => true) = true by simp]; rfl
  · unfold tocsinlaw16_AggrFolds_l107
    rw [he, hlen]; rfl
  · have hi' : i < tocsinref16_Words.length := by rw [hlen]; exact hi
    unfold tocsinlaw16_AggrFolds_l107
    rw [he, show decide ((i : Int) < (tocsinref16_Words.length : Int)) = true from decide_eq_true (by omega)]
    simp only [cond_true, ix_nat, List.getElem?_eq_getElem hi', Option.bind_some, wrap_up (show i < 4294967296 by omega), beq_self_eq_true, Bool.not_true, cond_false]
theorem words_of : ∀ {l : List Fl}, (∀ p ∈ l, ∃ x, p = some x ∧ x < 2 ^ 64) → ∃ ws, l = FL ws
  | [], _ => ⟨[], rfl⟩
  | p :: l, h => by
    obtain ⟨ws, hw⟩ := words_of (l := l) fun q hq => h q (by simp [hq])
    obtain ⟨x, hx, hb⟩ := h p (by simp)
    exact ⟨⟨x, by omega⟩ :: ws, by rw [hx, hw]; rfl⟩
theorem tocsinlaw16_AggrFolds_true {I : Imm} {c0 c1 c2 : List Value} {n0 n1 n2 : Nat} (a0 : ByteArray) (a1 : List Fl) (a2 : Fl) (h0 : Kd.str.R I a0 c0) (h1 : (Kd.sl Kd.flt).R I a1 c1) (h2 : Kd.flt.R I a2 c2)
    (w0 : wStr a0 n0) (w1 : wSl wFlt a1 n1) (w2 : wFlt a2 n2) (hn : n0 + n1 + n2 ≤ 1048576) : tocsinlaw16_AggrFolds a0 a1 a2 = some true := by
  have l1 := w1.len
  have hk : ∀ p ∈ a1, ∃ x, p = some x ∧ x < 2 ^ 64 := fun p hp => by
    obtain ⟨a, ⟨x, h3, h4⟩, _⟩ := w1.mem hp
    exact ⟨x, h3, h4⟩
  have hk1 : ∀ p ∈ a1, ∃ x, p = some x := fun p hp => by obtain ⟨x, h, _⟩ := hk p hp; exact ⟨x, h⟩
  have l2 : a1.length < 1073741824 := by omega
  obtain ⟨ws, rfl⟩ := words_of hk
  obtain ⟨q, rfl, hq⟩ := w2
  rw [len_FL] at l2
  obtain ⟨x, e, g1, g2⟩ := Fold_same a0 l2 ⟨q, by omega⟩
  unfold tocsinlaw16_AggrFolds
  rw [app_eq (by rw [len_FL]; simp; omega)]
  simp only [Option.bind_some, List.nil_append]
  rw [g1, g2]
  simp only [Option.bind_some]
  rw [alike_self ⟨x, rfl⟩]
  simp only [Option.bind_some, Bool.not_true, cond_false, bne_self_eq_false]
  rw [kept_loop (by rw [len_FL]; omega) hk1]
  simp only [Option.bind_some]
  rw [show ((aggr_Words.length : Int) != (tocsinref16_Words.length : Int)) = false from rfl]
  simp only [cond_false, words_loop, Option.bind_some, awake_true]
end Go.Proofs.YtkjkkimnjpodiaaGreatDoor
