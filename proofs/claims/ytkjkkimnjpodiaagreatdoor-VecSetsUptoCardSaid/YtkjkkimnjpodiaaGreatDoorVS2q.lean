/- VecSets: and and unless part a vector in two; or has it whole. -/
import Derived.Test.YtkjkkimnjpodiaaGreatDoorVS1q
import Derived.Test.YtkjkkimnjpodiaaGreatDoorGB32q
import Derived.KernelRfl
import Derived.Lib.LaidU8T
import Derived.Shelf.Unicode.ValidAny
set_option linter.unusedVariables false
set_option linter.unusedSimpArgs false
set_option maxRecDepth 100000
namespace Go.Proofs.YtkjkkimnjpodiaaGreatDoor
open Go.GB
noncomputable def slices_Grow_c (a1 : Int) : Option (List ByteArray) :=
  bif (decide (a1 < 0)) then
  (none)
  else
  (Option.bind (bif (decide ((IntKind.wrap .i64 (a1 - (IntKind.wrap .i64 (0 - 0)))) > 0)) then
      (Option.bind (zrow ((⟨#[]⟩ : ByteArray) : ByteArray) (IntKind.wrap .i64 (a1 - (IntKind.wrap .i64 (0 - 0))))) fun (zs13 : List ByteArray) =>
        Option.bind (lx zs13 0 0) fun (l20 : List ByteArray) =>
        some l20)
      else
      (some [])) fun (j2 : (List ByteArray)) =>
    some j2)
theorem slices_Grow_ev (a1 : Int) : OLe (slices_Grow_c a1) (slices_Grow a1) := by
  unfold slices_Grow_c slices_Grow
  exact (OLe.cond (OLe.refl _) (OLe.bind (OLe.cond (OLe.bind (OLe.refl _) (fun _ => (OLe.bind (OLe.refl _) (fun _ => (OLe.refl _))))) (OLe.refl _)) (fun _ => (OLe.refl _))))
noncomputable def slices_Concat_l16_c (a0 : List (List ByteArray)) : (Int × Int) → Option ((Int × Int) ⊕ (Int)) := fun s7 =>
  bif (decide (s7.2 < (a0.length : Int))) then
  (Option.bind (ix a0 s7.2) fun (x19 : List ByteArray) =>
    bif (decide ((IntKind.wrap .i64 (s7.1 + (x19.length : Int))) < 0)) then
    (none)
    else
    (some (Sum.inl ((IntKind.wrap .i64 (s7.1 + (x19.length : Int))), (IntKind.wrap .i64 (s7.2 + 1))))))
  else
  (some (Sum.inr s7.1))
theorem slices_Concat_l16_ev (a0 : List (List ByteArray)) (s7 : Int × Int) : OLe (slices_Concat_l16_c a0 s7) (slices_Concat_l16 a0 s7) := by
  unfold slices_Concat_l16_c slices_Concat_l16
  exact (OLe.cond (OLe.bind (OLe.refl _) (fun _ => (OLe.cond (OLe.refl _) (OLe.refl _)))) (OLe.refl _))
noncomputable def slices_Concat_l67_c (a0 : List (List ByteArray)) : ((List ByteArray) × Int) → Option (((List ByteArray) × Int) ⊕ ((List ByteArray))) := fun s50 =>
  bif (decide (s50.2 < (a0.length : Int))) then
  (Option.bind (ix a0 s50.2) fun (x70 : List ByteArray) =>
    Option.bind (app s50.1 x70) fun (zs81 : List ByteArray) =>
    some (Sum.inl (zs81, (IntKind.wrap .i64 (s50.2 + 1)))))
  else
  (some (Sum.inr s50.1))
theorem slices_Concat_l67_ev (a0 : List (List ByteArray)) (s50 : (List ByteArray) × Int) : OLe (slices_Concat_l67_c a0 s50) (slices_Concat_l67 a0 s50) := by
  unfold slices_Concat_l67_c slices_Concat_l67
  exact (OLe.cond (OLe.bind (OLe.refl _) (fun _ => (OLe.bind (OLe.refl _) (fun _ => (OLe.refl _))))) (OLe.refl _))
noncomputable def slices_Concat_c (a0 : List (List ByteArray)) : Option (List ByteArray) :=
  Option.bind (loopF 1000000 (slices_Concat_l16_c a0) (0, 0)) fun (r5 : Int) =>
  Option.bind (slices_Grow_c r5) fun (y31 : (List ByteArray)) =>
  Option.bind (loopF 1000000 (slices_Concat_l67_c a0) (y31, 0)) fun (r48 : (List ByteArray)) =>
  some r48
theorem slices_Concat_ev (a0 : List (List ByteArray)) : OLe (slices_Concat_c a0) (slices_Concat a0) := by
  unfold slices_Concat_c slices_Concat
  exact (OLe.bind (OLe.loop (fun _ => slices_Concat_l16_ev _ _)) (fun _ => (OLe.bind (slices_Grow_ev _) (fun _ => (OLe.bind (OLe.loop (fun _ => slices_Concat_l67_ev _ _)) (fun _ => (OLe.refl _)))))))
noncomputable def labels_named_l33_c (a2 : Bool) (l11 : List Int) : Int → Option ((Int) ⊕ ((Unit) ⊕ (Bool))) := fun s23 =>
  bif (decide (s23 < (l11.length : Int))) then
  (Option.bind (ix l11 s23) fun (x36 : Int) =>
    bif (((!(labels_letter x36)) && (!(labels_digit x36))) && (!(a2 && (x36 == 58)))) then
    (some (Sum.inr (Sum.inr false)))
    else
    (some (Sum.inl (IntKind.wrap .i64 (s23 + 1)))))
  else
  (some (Sum.inr (Sum.inl ())))
theorem labels_named_l33_ev (a2 : Bool) (l11 : List Int) (s23 : Int) : OLe (labels_named_l33_c a2 l11 s23) (labels_named_l33 a2 l11 s23) := by
  unfold labels_named_l33_c labels_named_l33
  exact (OLe.cond (OLe.bind (OLe.refl _) (fun _ => (OLe.cond (OLe.refl _) (OLe.refl _)))) (OLe.refl _))
noncomputable def labels_named_c (a0 : ByteArray) (a1 : Int) (a2 : Bool) : Option Bool :=
  Option.bind (bif (a0.toList == (⟨#[]⟩ : ByteArray).toList) then
    (some true)
    else
    (bif (decide ((a0.size : Int) > a1)) then
      (some true)
      else
      (Option.bind (bx a0 0) fun (c8 : Int) =>
        some (labels_digit c8)))) fun (j1 : Bool) =>
  bif j1 then
  (some false)
  else
  (Option.bind (sb a0) fun (l11 : List Int) =>
    Option.bind (loopF 1000000 (labels_named_l33_c a2 l11) 0) fun (r21 : (Unit) ⊕ (Bool)) =>
    match r21 with
    | Sum.inl r29 => some true
    | Sum.inr v54 => some v54)
theorem labels_named_ev (a0 : ByteArray) (a1 : Int) (a2 : Bool) : OLe (labels_named_c a0 a1 a2) (labels_named a0 a1 a2) := by
  unfold labels_named_c labels_named
  exact (OLe.bind (OLe.cond (OLe.refl _) (OLe.cond (OLe.refl _) (OLe.bind (OLe.refl _) (fun _ => (OLe.refl _))))) (fun _ => (OLe.cond (OLe.refl _) (OLe.bind (OLe.refl _) (fun _ => (OLe.bind (OLe.loop (fun _ => labels_named_l33_ev _ _ _)) (fun j => by cases j with | inl a => exact (OLe.refl _) | inr b => exact (OLe.refl _))))))))
noncomputable def labels_Name_c (a0 : ByteArray) : Option Bool :=
  Option.bind (labels_named_c a0 64 false) fun (y1 : Bool) =>
  some y1
theorem labels_Name_ev (a0 : ByteArray) : OLe (labels_Name_c a0) (labels_Name a0) := by
  unfold labels_Name_c labels_Name
  exact (OLe.bind (labels_named_ev _ _ _) (fun _ => (OLe.refl _)))
noncomputable def slices_Index_l17_c (a0 : List ByteArray) (a1 : ByteArray) : Int → Option ((Int) ⊕ ((Unit) ⊕ (Int))) := fun s7 =>
  bif (decide (s7 < (a0.length : Int))) then
  (Option.bind (ix a0 s7) fun (x20 : ByteArray) =>
    bif (a1.toList == x20.toList) then
    (some (Sum.inr (Sum.inr s7)))
    else
    (some (Sum.inl (IntKind.wrap .i64 (s7 + 1)))))
  else
  (some (Sum.inr (Sum.inl ())))
theorem slices_Index_l17_ev (a0 : List ByteArray) (a1 : ByteArray) (s7 : Int) : OLe (slices_Index_l17_c a0 a1 s7) (slices_Index_l17 a0 a1 s7) := by
  unfold slices_Index_l17_c slices_Index_l17
  exact (OLe.cond (OLe.bind (OLe.refl _) (fun _ => (OLe.cond (OLe.refl _) (OLe.refl _)))) (OLe.refl _))
noncomputable def slices_Index_c (a0 : List ByteArray) (a1 : ByteArray) : Option Int :=
  Option.bind (loopF 1000000 (slices_Index_l17_c a0 a1) 0) fun (r5 : (Unit) ⊕ (Int)) =>
  match r5 with
  | Sum.inl r13 => some (-1)
  | Sum.inr v29 => some v29
theorem slices_Index_ev (a0 : List ByteArray) (a1 : ByteArray) : OLe (slices_Index_c a0 a1) (slices_Index a0 a1) := by
  unfold slices_Index_c slices_Index
  exact (OLe.bind (OLe.loop (fun _ => slices_Index_l17_ev _ _ _)) (fun j => by cases j with | inl a => exact (OLe.refl _) | inr b => exact (OLe.refl _)))
noncomputable def slices_Contains_c (a0 : List ByteArray) (a1 : ByteArray) : Option Bool :=
  Option.bind (slices_Index_c a0 a1) fun (y1 : Int) =>
  some (decide (y1 ≥ 0))
theorem slices_Contains_ev (a0 : List ByteArray) (a1 : ByteArray) : OLe (slices_Contains_c a0 a1) (slices_Contains a0 a1) := by
  unfold slices_Contains_c slices_Contains
  exact (OLe.bind (slices_Index_ev _ _) (fun _ => (OLe.refl _)))
noncomputable def vec_wrong_l43_c (y18 : (List ByteArray)) : Int → Option ((Int) ⊕ ((Unit) ⊕ (Int))) := fun s33 =>
  bif (decide (s33 < (y18.length : Int))) then
  (Option.bind (ix y18 s33) fun (x46 : ByteArray) =>
    Option.bind (labels_Name_c x46) fun (y55 : Bool) =>
    bif (!y55) then
    (some (Sum.inr (Sum.inr 40)))
    else
    (some (Sum.inl (IntKind.wrap .i64 (s33 + 1)))))
  else
  (some (Sum.inr (Sum.inl ())))
theorem vec_wrong_l43_ev (y18 : (List ByteArray)) (s33 : Int) : OLe (vec_wrong_l43_c y18 s33) (vec_wrong_l43 y18 s33) := by
  unfold vec_wrong_l43_c vec_wrong_l43
  exact (OLe.cond (OLe.bind (OLe.refl _) (fun _ => (OLe.bind (labels_Name_ev _) (fun _ => (OLe.cond (OLe.refl _) (OLe.refl _)))))) (OLe.refl _))
noncomputable def vec_wrong_l82_c (a1 : S24) : Int → Option ((Int) ⊕ ((Unit) ⊕ (Int))) := fun s72 =>
  bif (decide (s72 < (a1.f3.length : Int))) then
  (Option.bind (ix a1.f3 s72) fun (x85 : ByteArray) =>
    Option.bind (bif a1.f1 then
      (Option.bind (slices_Contains_c a1.f2 x85) fun (y99 : Bool) =>
        some y99)
      else
      (some false)) fun (j93 : Bool) =>
    bif j93 then
    (some (Sum.inr (Sum.inr 1)))
    else
    (some (Sum.inl (IntKind.wrap .i64 (s72 + 1)))))
  else
  (some (Sum.inr (Sum.inl ())))
theorem vec_wrong_l82_ev (a1 : S24) (s72 : Int) : OLe (vec_wrong_l82_c a1 s72) (vec_wrong_l82 a1 s72) := by
  unfold vec_wrong_l82_c vec_wrong_l82
  exact (OLe.cond (OLe.bind (OLe.refl _) (fun _ => (OLe.bind (OLe.cond (OLe.bind (slices_Contains_ev _ _) (fun _ => (OLe.refl _))) (OLe.refl _)) (fun _ => (OLe.cond (OLe.refl _) (OLe.refl _)))))) (OLe.refl _))
noncomputable def vec_wrong_c (a0 : Int) (a1 : S24) : Option Int :=
  bif (((decide (a1.f0 < 0)) || (decide (a1.f0 > 3))) || (!((a1.f0 == 3) == (decide (a0 ≥ 13))))) then
  (some 1)
  else
  (Option.bind (slices_Concat_c [a1.f2, a1.f3]) fun (y18 : (List ByteArray)) =>
    Option.bind (loopF 1000000 (vec_wrong_l43_c y18) 0) fun (r31 : (Unit) ⊕ (Int)) =>
    match r31 with
    | Sum.inl r39 => bif ((decide ((a1.f3.length : Int) > 0)) && ((a1.f0 == 0) || (a1.f0 == 3))) then
      (some 1)
      else
      (Option.bind (loopF 1000000 (vec_wrong_l82_c a1) 0) fun (r70 : (Unit) ⊕ (Int)) =>
        match r70 with
        | Sum.inl r78 => some 0
        | Sum.inr v102 => some v102)
    | Sum.inr v103 => some v103)
theorem vec_wrong_ev (a0 : Int) (a1 : S24) : OLe (vec_wrong_c a0 a1) (vec_wrong a0 a1) := by
  unfold vec_wrong_c vec_wrong
  exact (OLe.cond (OLe.refl _) (OLe.bind (slices_Concat_ev _) (fun _ => (OLe.bind (OLe.loop (fun _ => vec_wrong_l43_ev _ _)) (fun j => by cases j with | inl a => exact (OLe.cond (OLe.refl _) (OLe.bind (OLe.loop (fun _ => vec_wrong_l82_ev _ _)) (fun j => by cases j with | inl a => exact (OLe.refl _) | inr b => exact (OLe.refl _)))) | inr b => exact (OLe.refl _))))))
noncomputable def utf8_ValidString_c (a0 : ByteArray) : Option Bool := utf8_ValidString a0
theorem utf8_ValidString_ev (a0 : ByteArray) : OLe (utf8_ValidString_c a0) (utf8_ValidString a0) := OLe.refl _
noncomputable def labels_value_c (a0 : ByteArray) : Option Int :=
  bif (a0.toList == (⟨#[]⟩ : ByteArray).toList) then
  (some 41)
  else
  (bif (decide ((a0.size : Int) > 256)) then
    (some 4)
    else
    (Option.bind (utf8_ValidString_c a0) fun (y3 : Bool) =>
      bif (!y3) then
      (some 12)
      else
      (some 0)))
theorem labels_value_ev (a0 : ByteArray) : OLe (labels_value_c a0) (labels_value a0) := by
  unfold labels_value_c labels_value
  exact (OLe.cond (OLe.refl _) (OLe.cond (OLe.refl _) (OLe.bind (utf8_ValidString_ev _) (fun _ => (OLe.cond (OLe.refl _) (OLe.refl _))))))
noncomputable def labels_Right_l18_c (a0 : List S76) : Int → Option ((Int) ⊕ ((Unit) ⊕ (Int × Int))) := fun s8 =>
  bif (decide (s8 < (a0.length : Int))) then
  (Option.bind (ix a0 s8) fun (x21 : S76) =>
    Option.bind (labels_Name_c x21.f0) fun (y30 : Bool) =>
    bif (!y30) then
    (some (Sum.inr (Sum.inr (40, s8))))
    else
    (Option.bind (labels_value_c x21.f1) fun (y33 : Int) =>
      bif (y33 != 0) then
      (some (Sum.inr (Sum.inr (y33, s8))))
      else
      (Option.bind (bif (decide (s8 > 0)) then
          (Option.bind (ix a0 (IntKind.wrap .i64 (s8 - 1))) fun (x42 : S76) =>
            some ((Op.bytesLess x21.f0.toList x42.f0.toList) || (x21.f0.toList == x42.f0.toList)))
          else
          (some false)) fun (j36 : Bool) =>
        bif j36 then
        (some (Sum.inr (Sum.inr (3, s8))))
        else
        (some (Sum.inl (IntKind.wrap .i64 (s8 + 1)))))))
  else
  (some (Sum.inr (Sum.inl ())))
theorem labels_Right_l18_ev (a0 : List S76) (s8 : Int) : OLe (labels_Right_l18_c a0 s8) (labels_Right_l18 a0 s8) := by
  unfold labels_Right_l18_c labels_Right_l18
  exact (OLe.cond (OLe.bind (OLe.refl _) (fun _ => (OLe.bind (labels_Name_ev _) (fun _ => (OLe.cond (OLe.refl _) (OLe.bind (labels_value_ev _) (fun _ => (OLe.cond (OLe.refl _) (OLe.bind (OLe.cond (OLe.bind (OLe.refl _) (fun _ => (OLe.refl _))) (OLe.refl _)) (fun _ => (OLe.cond (OLe.refl _) (OLe.refl _)))))))))))) (OLe.refl _))
noncomputable def labels_Right_c (a0 : List S76) : Option (Int × Int) :=
  bif (decide ((a0.length : Int) > 16)) then
  (some (8, 0))
  else
  (Option.bind (loopF 1000000 (labels_Right_l18_c a0) 0) fun (r6 : (Unit) ⊕ (Int × Int)) =>
    match r6 with
    | Sum.inl r14 => some (0, 0)
    | Sum.inr v51 => some v51)
theorem labels_Right_ev (a0 : List S76) : OLe (labels_Right_c a0) (labels_Right a0) := by
  unfold labels_Right_c labels_Right
  exact (OLe.cond (OLe.refl _) (OLe.bind (OLe.loop (fun _ => labels_Right_l18_ev _ _)) (fun j => by cases j with | inl a => exact (OLe.refl _) | inr b => exact (OLe.refl _))))
noncomputable def slices_Clone_c (a0 : List S76) : Option (List S76) :=
  Option.bind (app ([] : List S76) a0) fun (zs3 : List S76) =>
  some zs3
theorem slices_Clone_ev (a0 : List S76) : OLe (slices_Clone_c a0) (slices_Clone a0) := by
  unfold slices_Clone_c slices_Clone
  exact (OLe.bind (OLe.refl _) (fun _ => (OLe.refl _)))
noncomputable def slices_CompareFunc_l17_c (a0 : List S76) (a1 : List S76) (a2 : S76 → S76 → Option Int) : Int → Option ((Int) ⊕ ((Unit) ⊕ (Int))) := fun s7 =>
  bif (decide (s7 < (a0.length : Int))) then
  (Option.bind (ix a0 s7) fun (x20 : S76) =>
    bif (decide (s7 ≥ (a1.length : Int))) then
    (some (Sum.inr (Sum.inr 1)))
    else
    (Option.bind (ix a1 s7) fun (x30 : S76) =>
      Option.bind (a2 x20 x30) fun (y40 : Int) =>
      bif (y40 != 0) then
      (some (Sum.inr (Sum.inr y40)))
      else
      (some (Sum.inl (IntKind.wrap .i64 (s7 + 1))))))
  else
  (some (Sum.inr (Sum.inl ())))
theorem slices_CompareFunc_l17_ev (a0 : List S76) (a1 : List S76) {a2 a2' : S76 → S76 → Option Int} (ha2 : ∀ x0 x1, OLe (a2 x0 x1) (a2' x0 x1)) (s7 : Int) : OLe (slices_CompareFunc_l17_c a0 a1 a2 s7) (slices_CompareFunc_l17 a0 a1 a2' s7) := by
  unfold slices_CompareFunc_l17_c slices_CompareFunc_l17
  exact (OLe.cond (OLe.bind (OLe.refl _) (fun _ => (OLe.cond (OLe.refl _) (OLe.bind (OLe.refl _) (fun _ => (OLe.bind (ha2 _ _) (fun _ => (OLe.cond (OLe.refl _) (OLe.refl _))))))))) (OLe.refl _))
noncomputable def slices_CompareFunc_c (a0 : List S76) (a1 : List S76) (a2 : S76 → S76 → Option Int) : Option Int :=
  Option.bind (loopF 1000000 (slices_CompareFunc_l17_c a0 a1 a2) 0) fun (r5 : (Unit) ⊕ (Int)) =>
  match r5 with
  | Sum.inl r13 => bif (decide ((a0.length : Int) < (a1.length : Int))) then
    (some (-1))
    else
    (some 0)
  | Sum.inr v43 => some v43
theorem slices_CompareFunc_ev (a0 : List S76) (a1 : List S76) {a2 a2' : S76 → S76 → Option Int} (ha2 : ∀ x0 x1, OLe (a2 x0 x1) (a2' x0 x1)) : OLe (slices_CompareFunc_c a0 a1 a2) (slices_CompareFunc a0 a1 a2') := by
  unfold slices_CompareFunc_c slices_CompareFunc
  exact (OLe.bind (OLe.loop (fun _ => slices_CompareFunc_l17_ev _ _ ha2 _)) (fun j => by cases j with | inl a => exact (OLe.cond (OLe.refl _) (OLe.refl _)) | inr b => exact (OLe.refl _)))
noncomputable def labels_Compare_c (a0 : List S76) (a1 : List S76) : Option Int :=
  Option.bind (slices_CompareFunc_c a0 a1 (fun x0 x1 => some (labels_Compare_1 x0 x1))) fun (y1 : Int) =>
  some y1
theorem labels_Compare_ev (a0 : List S76) (a1 : List S76) : OLe (labels_Compare_c a0 a1) (labels_Compare a0 a1) := by
  unfold labels_Compare_c labels_Compare
  exact (OLe.bind (slices_CompareFunc_ev _ _ (fun _ _ => OLe.refl _)) (fun _ => (OLe.refl _)))
noncomputable def vec_Vector_1_c (a0 : S38) (a1 : S38) : Option Int :=
  Option.bind (labels_Compare_c a0.f0 a1.f0) fun (y3 : Int) =>
  some y3
theorem vec_Vector_1_ev (a0 : S38) (a1 : S38) : OLe (vec_Vector_1_c a0 a1) (vec_Vector_1 a0 a1) := by
  unfold vec_Vector_1_c vec_Vector_1
  exact (OLe.bind (labels_Compare_ev _ _) (fun _ => (OLe.refl _)))
noncomputable def vec_Vector_l18_c (a0 : List S38) : Int → Option ((Int) ⊕ ((Unit) ⊕ ((List S38) × Int))) := fun s8 =>
  bif (decide (s8 < (a0.length : Int))) then
  (Option.bind (ix a0 s8) fun (x21 : S38) =>
    Option.bind (labels_Right_c x21.f0) fun (y35 : Int × Int) =>
    bif (y35.1 != 0) then
    (some (Sum.inr (Sum.inr ([], 41))))
    else
    (some (Sum.inl (IntKind.wrap .i64 (s8 + 1)))))
  else
  (some (Sum.inr (Sum.inl ())))
theorem vec_Vector_l18_ev (a0 : List S38) (s8 : Int) : OLe (vec_Vector_l18_c a0 s8) (vec_Vector_l18 a0 s8) := by
  unfold vec_Vector_l18_c vec_Vector_l18
  exact (OLe.cond (OLe.bind (OLe.refl _) (fun _ => (OLe.bind (labels_Right_ev _) (fun _ => (OLe.cond (OLe.refl _) (OLe.refl _)))))) (OLe.refl _))
noncomputable def vec_Vector_l65_c (a0 : List S38) : ((List S38) × Int) → Option (((List S38) × Int) ⊕ ((List S38))) := fun s48 =>
  bif (decide (s48.2 < (a0.length : Int))) then
  (Option.bind (ix a0 s48.2) fun (x68 : S38) =>
    Option.bind (slices_Clone_c x68.f0) fun (y82 : (List S76)) =>
    Option.bind (app s48.1 [(⟨y82, x68.f1⟩ : S38)]) fun (zs99 : List S38) =>
    some (Sum.inl (zs99, (IntKind.wrap .i64 (s48.2 + 1)))))
  else
  (some (Sum.inr s48.1))
theorem vec_Vector_l65_ev (a0 : List S38) (s48 : (List S38) × Int) : OLe (vec_Vector_l65_c a0 s48) (vec_Vector_l65 a0 s48) := by
  unfold vec_Vector_l65_c vec_Vector_l65
  exact (OLe.cond (OLe.bind (OLe.refl _) (fun _ => (OLe.bind (slices_Clone_ev _) (fun _ => (OLe.bind (OLe.refl _) (fun _ => (OLe.refl _))))))) (OLe.refl _))
noncomputable def vec_Vector_l131_c (zs105 : List S38) : Int → Option ((Int) ⊕ ((Unit) ⊕ ((List S38) × Int))) := fun s121 =>
  bif (decide (s121 < (zs105.length : Int))) then
  (Option.bind (ix zs105 (IntKind.wrap .i64 (s121 - 1))) fun (x134 : S38) =>
    Option.bind (ix zs105 s121) fun (x148 : S38) =>
    Option.bind (labels_Compare_c x134.f0 x148.f0) fun (y162 : Int) =>
    bif (y162 == 0) then
    (some (Sum.inr (Sum.inr ([], 150))))
    else
    (some (Sum.inl (IntKind.wrap .i64 (s121 + 1)))))
  else
  (some (Sum.inr (Sum.inl ())))
theorem vec_Vector_l131_ev (zs105 : List S38) (s121 : Int) : OLe (vec_Vector_l131_c zs105 s121) (vec_Vector_l131 zs105 s121) := by
  unfold vec_Vector_l131_c vec_Vector_l131
  exact (OLe.cond (OLe.bind (OLe.refl _) (fun _ => (OLe.bind (OLe.refl _) (fun _ => (OLe.bind (labels_Compare_ev _ _) (fun _ => (OLe.cond (OLe.refl _) (OLe.refl _)))))))) (OLe.refl _))
noncomputable def vec_Vector_c (a0 : List S38) : Option ((List S38) × Int) :=
  bif (decide ((a0.length : Int) > 1000)) then
  (some ([], 7))
  else
  (Option.bind (loopF 1000000 (vec_Vector_l18_c a0) 0) fun (r6 : (Unit) ⊕ ((List S38) × Int)) =>
    match r6 with
    | Sum.inl r14 => Option.bind (loopF 1000000 (vec_Vector_l65_c a0) ([], 0)) fun (r46 : (List S38)) =>
      sortBindC vec_Vector_1_c r46 fun (zs105 : List S38) =>
      Option.bind (loopF 1000000 (vec_Vector_l131_c zs105) 1) fun (r119 : (Unit) ⊕ ((List S38) × Int)) =>
      match r119 with
      | Sum.inl r127 => some (zs105, 0)
      | Sum.inr v165 => some v165
    | Sum.inr v166 => some v166)
theorem vec_Vector_ev (a0 : List S38) : OLe (vec_Vector_c a0) (vec_Vector a0) := by
  unfold vec_Vector_c vec_Vector
  exact (OLe.cond (OLe.refl _) (OLe.bind (OLe.loop (fun _ => vec_Vector_l18_ev _ _)) (fun j => by cases j with | inl a => exact (OLe.bind (OLe.loop (fun _ => vec_Vector_l65_ev _ _)) (fun _ => (OLe.sort (fun _ _ => vec_Vector_1_ev _ _) (fun _ => (OLe.bind (OLe.loop (fun _ => vec_Vector_l131_ev _ _)) (fun j => by cases j with | inl a => exact (OLe.refl _) | inr b => exact (OLe.refl _))))))) | inr b => exact (OLe.refl _))))
noncomputable def labels_right_c (a0 : List S76) : Option Int :=
  Option.bind (labels_Right_c a0) fun (y1 : Int × Int) =>
  some y1.1
theorem labels_right_ev (a0 : List S76) : OLe (labels_right_c a0) (labels_right a0) := by
  unfold labels_right_c labels_right
  exact (OLe.bind (labels_Right_ev _) (fun _ => (OLe.refl _)))
noncomputable def labels_pick_l28_c (a0 : List S76) (a1 : Bool) (a2 : List ByteArray) : ((List S76) × Int) → Option (((List S76) × Int) ⊕ ((List S76))) := fun s11 =>
  bif (decide (s11.2 < (a0.length : Int))) then
  (Option.bind (ix a0 s11.2) fun (x31 : S76) =>
    Option.bind (slices_Contains_c a2 x31.f0) fun (y40 : Bool) =>
    Option.bind (bif (y40 == a1) then
      (Option.bind (app s11.1 [x31]) fun (zs56 : List S76) =>
        some zs56)
      else
      (some s11.1)) fun (j42 : (List S76)) =>
    some (Sum.inl (j42, (IntKind.wrap .i64 (s11.2 + 1)))))
  else
  (some (Sum.inr s11.1))
theorem labels_pick_l28_ev (a0 : List S76) (a1 : Bool) (a2 : List ByteArray) (s11 : (List S76) × Int) : OLe (labels_pick_l28_c a0 a1 a2 s11) (labels_pick_l28 a0 a1 a2 s11) := by
  unfold labels_pick_l28_c labels_pick_l28
  exact (OLe.cond (OLe.bind (OLe.refl _) (fun _ => (OLe.bind (slices_Contains_ev _ _) (fun _ => (OLe.bind (OLe.cond (OLe.bind (OLe.refl _) (fun _ => (OLe.refl _))) (OLe.refl _)) (fun _ => (OLe.refl _))))))) (OLe.refl _))
noncomputable def labels_pick_c (a0 : List S76) (a1 : Bool) (a2 : List ByteArray) : Option (List S76) :=
  Option.bind (loopF 1000000 (labels_pick_l28_c a0 a1 a2) ([], 0)) fun (r9 : (List S76)) =>
  some r9
theorem labels_pick_ev (a0 : List S76) (a1 : Bool) (a2 : List ByteArray) : OLe (labels_pick_c a0 a1 a2) (labels_pick a0 a1 a2) := by
  unfold labels_pick_c labels_pick
  exact (OLe.bind (OLe.loop (fun _ => labels_pick_l28_ev _ _ _ _)) (fun _ => (OLe.refl _)))
noncomputable def labels_Keep_c (a0 : List S76) (a1 : List ByteArray) : Option ((List S76) × Int) :=
  Option.bind (labels_right_c a0) fun (y1 : Int) =>
  bif (y1 != 0) then
  (some ([], y1))
  else
  (Option.bind (labels_pick_c a0 true a1) fun (y4 : (List S76)) =>
    some (y4, 0))
theorem labels_Keep_ev (a0 : List S76) (a1 : List ByteArray) : OLe (labels_Keep_c a0 a1) (labels_Keep a0 a1) := by
  unfold labels_Keep_c labels_Keep
  exact (OLe.bind (labels_right_ev _) (fun _ => (OLe.cond (OLe.refl _) (OLe.bind (labels_pick_ev _ _ _) (fun _ => (OLe.refl _))))))
noncomputable def slices_Clone_f76_c (a0 : List ByteArray) : Option (List ByteArray) :=
  Option.bind (app ([] : List ByteArray) a0) fun (zs3 : List ByteArray) =>
  some zs3
theorem slices_Clone_f76_ev (a0 : List ByteArray) : OLe (slices_Clone_f76_c a0) (slices_Clone_f76 a0) := by
  unfold slices_Clone_f76_c slices_Clone_f76
  exact (OLe.bind (OLe.refl _) (fun _ => (OLe.refl _)))
noncomputable def labels_Without_c (a0 : List S76) (a1 : List ByteArray) : Option ((List S76) × Int) :=
  Option.bind (labels_right_c a0) fun (y1 : Int) =>
  bif (y1 != 0) then
  (some ([], y1))
  else
  (Option.bind (labels_pick_c a0 false a1) fun (y4 : (List S76)) =>
    some (y4, 0))
theorem labels_Without_ev (a0 : List S76) (a1 : List ByteArray) : OLe (labels_Without_c a0 a1) (labels_Without a0 a1) := by
  unfold labels_Without_c labels_Without
  exact (OLe.bind (labels_right_ev _) (fun _ => (OLe.cond (OLe.refl _) (OLe.bind (labels_pick_ev _ _ _) (fun _ => (OLe.refl _))))))
noncomputable def vint_joined_c (a0 : List Int) (a1 : List Int) : Option (List Int) :=
  Option.bind (mkrow (0 : Int) 0 (IntKind.wrap .i64 ((a0.length : Int) + (a1.length : Int)))) fun (xs1 : List Int) =>
  Option.bind (app xs1 a0) fun (zs6 : List Int) =>
  Option.bind (app zs6 a1) fun (zs12 : List Int) =>
  some zs12
theorem vint_joined_ev (a0 : List Int) (a1 : List Int) : OLe (vint_joined_c a0 a1) (vint_joined a0 a1) := by
  unfold vint_joined_c vint_joined
  exact (OLe.bind (OLe.refl _) (fun _ => (OLe.bind (OLe.refl _) (fun _ => (OLe.bind (OLe.refl _) (fun _ => (OLe.refl _)))))))
noncomputable def vint_PutU_l28_c : (Int × (List Int)) → Option ((Int × (List Int)) ⊕ (Int × (List Int))) := fun s11 =>
  bif (decide (s11.1 ≥ 128)) then
  (Option.bind (app s11.2 [(bitOr .u8 (IntKind.wrap .u8 s11.1) 128)]) fun (zs35 : List Int) =>
    some (Sum.inl ((shr .u64 s11.1 7), zs35)))
  else
  (some (Sum.inr (s11.1, s11.2)))
theorem vint_PutU_l28_ev  (s11 : Int × (List Int)) : OLe (vint_PutU_l28_c  s11) (vint_PutU_l28  s11) := by
  unfold vint_PutU_l28_c vint_PutU_l28
  exact (OLe.cond (OLe.bind (OLe.refl _) (fun _ => (OLe.refl _))) (OLe.refl _))
noncomputable def vint_PutU_c (a0 : List Int) (a1 : Int) : Option (List Int) :=
  Option.bind (loopF 1000000 vint_PutU_l28_c (a1, [])) fun (r9 : Int × (List Int)) =>
  Option.bind (app r9.2 [(IntKind.wrap .u8 r9.1)]) fun (zs45 : List Int) =>
  Option.bind (vint_joined_c a0 zs45) fun (y55 : (List Int)) =>
  some y55
theorem vint_PutU_ev (a0 : List Int) (a1 : Int) : OLe (vint_PutU_c a0 a1) (vint_PutU a0 a1) := by
  unfold vint_PutU_c vint_PutU
  exact (OLe.bind (OLe.loop (fun _ => vint_PutU_l28_ev  _)) (fun _ => (OLe.bind (OLe.refl _) (fun _ => (OLe.bind (vint_joined_ev _ _) (fun _ => (OLe.refl _)))))))
noncomputable def vint_PutText_c (a0 : List Int) (a1 : ByteArray) : Option (List Int) :=
  Option.bind (vint_PutU_c a0 (IntKind.wrap .u64 (a1.size : Int))) fun (y1 : (List Int)) =>
  Option.bind (sb a1) fun (l10 : List Int) =>
  Option.bind (vint_joined_c y1 l10) fun (y21 : (List Int)) =>
  some y21
theorem vint_PutText_ev (a0 : List Int) (a1 : ByteArray) : OLe (vint_PutText_c a0 a1) (vint_PutText a0 a1) := by
  unfold vint_PutText_c vint_PutText
  exact (OLe.bind (vint_PutU_ev _ _) (fun _ => (OLe.bind (OLe.refl _) (fun _ => (OLe.bind (vint_joined_ev _ _) (fun _ => (OLe.refl _)))))))
noncomputable def labels_Put_l40_c (a1 : List S76) : ((List Int) × Int) → Option (((List Int) × Int) ⊕ ((List Int))) := fun s23 =>
  bif (decide (s23.2 < (a1.length : Int))) then
  (Option.bind (ix a1 s23.2) fun (x43 : S76) =>
    Option.bind (vint_PutText_c s23.1 x43.f0) fun (y56 : (List Int)) =>
    Option.bind (vint_PutText_c y56 x43.f1) fun (y69 : (List Int)) =>
    some (Sum.inl (y69, (IntKind.wrap .i64 (s23.2 + 1)))))
  else
  (some (Sum.inr s23.1))
theorem labels_Put_l40_ev (a1 : List S76) (s23 : (List Int) × Int) : OLe (labels_Put_l40_c a1 s23) (labels_Put_l40 a1 s23) := by
  unfold labels_Put_l40_c labels_Put_l40
  exact (OLe.cond (OLe.bind (OLe.refl _) (fun _ => (OLe.bind (vint_PutText_ev _ _) (fun _ => (OLe.bind (vint_PutText_ev _ _) (fun _ => (OLe.refl _))))))) (OLe.refl _))
noncomputable def labels_Put_c (a0 : List Int) (a1 : List S76) : Option ((List Int) × Int) :=
  Option.bind (labels_right_c a1) fun (y1 : Int) =>
  bif (y1 != 0) then
  (some ([], y1))
  else
  (Option.bind (vint_PutU_c a0 (IntKind.wrap .u64 (a1.length : Int))) fun (y4 : (List Int)) =>
    Option.bind (loopF 1000000 (labels_Put_l40_c a1) (y4, 0)) fun (r21 : (List Int)) =>
    some (r21, 0))
theorem labels_Put_ev (a0 : List Int) (a1 : List S76) : OLe (labels_Put_c a0 a1) (labels_Put a0 a1) := by
  unfold labels_Put_c labels_Put
  exact (OLe.bind (labels_right_ev _) (fun _ => (OLe.cond (OLe.refl _) (OLe.bind (vint_PutU_ev _ _) (fun _ => (OLe.bind (OLe.loop (fun _ => labels_Put_l40_ev _ _)) (fun _ => (OLe.refl _))))))))
noncomputable def vec_signature_c (a0 : List S76) (a1 : S24) : Option ByteArray :=
  Option.bind (bif a1.f1 then
    (Option.bind (labels_Keep_c a0 a1.f2) fun (y12 : (List S76) × Int) =>
      some y12.1)
    else
    (Option.bind (slices_Clone_f76_c a1.f2) fun (y21 : (List ByteArray)) =>
      Option.bind (app y21 [(⟨#[95, 95, 110, 97, 109, 101, 95, 95]⟩ : ByteArray)]) fun (zs34 : List ByteArray) =>
      Option.bind (labels_Without_c a0 zs34) fun (y44 : (List S76) × Int) =>
      some y44.1)) fun (j2 : (List S76)) =>
  Option.bind (labels_Put_c [] j2) fun (y57 : (List Int) × Int) =>
  some (ofBytes y57.1)
theorem vec_signature_ev (a0 : List S76) (a1 : S24) : OLe (vec_signature_c a0 a1) (vec_signature a0 a1) := by
  unfold vec_signature_c vec_signature
  exact (OLe.bind (OLe.cond (OLe.bind (labels_Keep_ev _ _) (fun _ => (OLe.refl _))) (OLe.bind (slices_Clone_f76_ev _) (fun _ => (OLe.bind (OLe.refl _) (fun _ => (OLe.bind (labels_Without_ev _ _) (fun _ => (OLe.refl _)))))))) (fun _ => (OLe.bind (labels_Put_ev _ _) (fun _ => (OLe.refl _)))))
noncomputable def vec_sets_1_l25_c (a0 : List S38) (a1 : S24) : ((List (ByteArray × Bool)) × Int) → Option (((List (ByteArray × Bool)) × Int) ⊕ ((List (ByteArray × Bool)))) := fun s12 =>
  bif (decide (s12.2 < (a0.length : Int))) then
  (Option.bind (ix a0 s12.2) fun (x28 : S38) =>
    Option.bind (vec_signature_c x28.f0 a1) fun (y42 : ByteArray) =>
    some (Sum.inl ((mput Ky.str s12.1 y42 true), (IntKind.wrap .i64 (s12.2 + 1)))))
  else
  (some (Sum.inr s12.1))
theorem vec_sets_1_l25_ev (a0 : List S38) (a1 : S24) (s12 : (List (ByteArray × Bool)) × Int) : OLe (vec_sets_1_l25_c a0 a1 s12) (vec_sets_1_l25 a0 a1 s12) := by
  unfold vec_sets_1_l25_c vec_sets_1_l25
  exact (OLe.cond (OLe.bind (OLe.refl _) (fun _ => (OLe.bind (vec_signature_ev _ _) (fun _ => (OLe.refl _))))) (OLe.refl _))
noncomputable def vec_sets_1_c (a0 : List S38) (a1 : S24) : Option (List (ByteArray × Bool)) :=
  Option.bind (loopF 1000000 (vec_sets_1_l25_c a0 a1) (([] : List (ByteArray × Bool)), 0)) fun (r10 : (List (ByteArray × Bool))) =>
  some r10
theorem vec_sets_1_ev (a0 : List S38) (a1 : S24) : OLe (vec_sets_1_c a0 a1) (vec_sets_1 a0 a1) := by
  unfold vec_sets_1_c vec_sets_1
  exact (OLe.bind (OLe.loop (fun _ => vec_sets_1_l25_ev _ _ _)) (fun _ => (OLe.refl _)))
noncomputable def vec_sets_l49_c (a0 : Int) (a1 : List S38) (a3 : S24) (y14 : (List (ByteArray × Bool))) : ((List S38) × Int) → Option (((List S38) × Int) ⊕ ((List S38))) := fun s32 =>
  bif (decide (s32.2 < (a1.length : Int))) then
  (Option.bind (ix a1 s32.2) fun (x52 : S38) =>
    Option.bind (bif (a0 == 14) then
      (some true)
      else
      (Option.bind (vec_signature_c x52.f0 a3) fun (y72 : ByteArray) =>
        some (((mget Ky.str y14 y72).getD false) == (a0 == 13)))) fun (j66 : Bool) =>
    Option.bind (bif j66 then
      (Option.bind (app s32.1 [x52]) fun (zs88 : List S38) =>
        some zs88)
      else
      (some s32.1)) fun (j74 : (List S38)) =>
    some (Sum.inl (j74, (IntKind.wrap .i64 (s32.2 + 1)))))
  else
  (some (Sum.inr s32.1))
theorem vec_sets_l49_ev (a0 : Int) (a1 : List S38) (a3 : S24) (y14 : (List (ByteArray × Bool))) (s32 : (List S38) × Int) : OLe (vec_sets_l49_c a0 a1 a3 y14 s32) (vec_sets_l49 a0 a1 a3 y14 s32) := by
  unfold vec_sets_l49_c vec_sets_l49
  exact (OLe.cond (OLe.bind (OLe.refl _) (fun _ => (OLe.bind (OLe.cond (OLe.refl _) (OLe.bind (vec_signature_ev _ _) (fun _ => (OLe.refl _)))) (fun _ => (OLe.bind (OLe.cond (OLe.bind (OLe.refl _) (fun _ => (OLe.refl _))) (OLe.refl _)) (fun _ => (OLe.refl _))))))) (OLe.refl _))
noncomputable def vec_sets_l121_c (a0 : Int) (a2 : List S38) (a3 : S24) (y6 : (List (ByteArray × Bool))) : ((List S38) × Int) → Option (((List S38) × Int) ⊕ ((List S38))) := fun s104 =>
  bif (decide (s104.2 < (a2.length : Int))) then
  (Option.bind (ix a2 s104.2) fun (x124 : S38) =>
    Option.bind (bif (a0 == 14) then
      (Option.bind (vec_signature_c x124.f0 a3) fun (y144 : ByteArray) =>
        some (!((mget Ky.str y6 y144).getD false)))
      else
      (some false)) fun (j138 : Bool) =>
    Option.bind (bif j138 then
      (Option.bind (app s104.1 [x124]) fun (zs160 : List S38) =>
        some zs160)
      else
      (some s104.1)) fun (j146 : (List S38)) =>
    some (Sum.inl (j146, (IntKind.wrap .i64 (s104.2 + 1)))))
  else
  (some (Sum.inr s104.1))
theorem vec_sets_l121_ev (a0 : Int) (a2 : List S38) (a3 : S24) (y6 : (List (ByteArray × Bool))) (s104 : (List S38) × Int) : OLe (vec_sets_l121_c a0 a2 a3 y6 s104) (vec_sets_l121 a0 a2 a3 y6 s104) := by
  unfold vec_sets_l121_c vec_sets_l121
  exact (OLe.cond (OLe.bind (OLe.refl _) (fun _ => (OLe.bind (OLe.cond (OLe.bind (vec_signature_ev _ _) (fun _ => (OLe.refl _))) (OLe.refl _)) (fun _ => (OLe.bind (OLe.cond (OLe.bind (OLe.refl _) (fun _ => (OLe.refl _))) (OLe.refl _)) (fun _ => (OLe.refl _))))))) (OLe.refl _))
noncomputable def vec_sets_c (a0 : Int) (a1 : List S38) (a2 : List S38) (a3 : S24) : Option (List S38) :=
  Option.bind (vec_sets_1_c a1 a3) fun (y6 : (List (ByteArray × Bool))) =>
  Option.bind (vec_sets_1_c a2 a3) fun (y14 : (List (ByteArray × Bool))) =>
  Option.bind (loopF 1000000 (vec_sets_l49_c a0 a1 a3 y14) ([], 0)) fun (r30 : (List S38)) =>
  Option.bind (loopF 1000000 (vec_sets_l121_c a0 a2 a3 y6) (r30, 0)) fun (r102 : (List S38)) =>
  some r102
theorem vec_sets_ev (a0 : Int) (a1 : List S38) (a2 : List S38) (a3 : S24) : OLe (vec_sets_c a0 a1 a2 a3) (vec_sets a0 a1 a2 a3) := by
  unfold vec_sets_c vec_sets
  exact (OLe.bind (vec_sets_1_ev _ _) (fun _ => (OLe.bind (vec_sets_1_ev _ _) (fun _ => (OLe.bind (OLe.loop (fun _ => vec_sets_l49_ev _ _ _ _ _)) (fun _ => (OLe.bind (OLe.loop (fun _ => vec_sets_l121_ev _ _ _ _ _)) (fun _ => (OLe.refl _)))))))))
noncomputable def math_Abs_c (a0 : Fl) : Option Fl :=
  Option.bind (fbits a0) fun (q1 : Int) =>
  some (some ((bitAndnot .u64 q1 9223372036854775808) : Int).toNat : Fl)
theorem math_Abs_ev (a0 : Fl) : OLe (math_Abs_c a0) (math_Abs a0) := by
  unfold math_Abs_c math_Abs
  exact (OLe.bind (OLe.refl _) (fun _ => (OLe.refl _)))
noncomputable def math_IsInf_c (a0 : Fl) (a1 : Int) : Option Bool :=
  Option.bind (bif (a1 == 0) then
    (Option.bind (math_Abs_c a0) fun (y9 : Fl) =>
      some y9)
    else
    (Option.bind (bif (decide (a1 < 0)) then
        (some (fneg a0))
        else
        (some a0)) fun (j16 : Fl) =>
      some j16)) fun (j1 : Fl) =>
  some (fcmp .gtr j1 (some 9218868437227405311 : Fl))
theorem math_IsInf_ev (a0 : Fl) (a1 : Int) : OLe (math_IsInf_c a0 a1) (math_IsInf a0 a1) := by
  unfold math_IsInf_c math_IsInf
  exact (OLe.bind (OLe.cond (OLe.bind (math_Abs_ev _) (fun _ => (OLe.refl _))) (OLe.bind (OLe.cond (OLe.refl _) (OLe.refl _)) (fun _ => (OLe.refl _)))) (fun _ => (OLe.refl _)))
noncomputable def math_normalize_c (a0 : Fl) : Option (Fl × Int) :=
  Option.bind (math_Abs_c a0) fun (y1 : Fl) =>
  bif (fcmp .lss y1 (some 4503599627370496 : Fl)) then
  (some ((farith .mul a0 (some 4841369599423283200 : Fl)), (-52)))
  else
  (some (a0, 0))
theorem math_normalize_ev (a0 : Fl) : OLe (math_normalize_c a0) (math_normalize a0) := by
  unfold math_normalize_c math_normalize
  exact (OLe.bind (math_Abs_ev _) (fun _ => (OLe.cond (OLe.refl _) (OLe.refl _))))
noncomputable def math_frexp_c (a0 : Fl) : Option (Fl × Int) :=
  bif (fcmp .eql a0 (some 0 : Fl)) then
  (some (a0, 0))
  else
  (Option.bind (Option.bind (math_IsInf_c a0 0) fun (y7 : Bool) =>
      bif y7 then
      (some true)
      else
      (some (math_IsNaN a0))) fun (j2 : Bool) =>
    bif j2 then
    (some (a0, 0))
    else
    (Option.bind (math_normalize_c a0) fun (y11 : Fl × Int) =>
      Option.bind (fbits y11.1) fun (q18 : Int) =>
      some ((some ((bitOr .u64 (bitAndnot .u64 q18 9218868437227405312) 4602678819172646912) : Int).toNat : Fl), (IntKind.wrap .i64 (y11.2 + (IntKind.wrap .i64 ((IntKind.wrap .i64 ((IntKind.wrap .i64 (bitAnd .u64 (shr .u64 q18 52) 2047)) - 1023)) + 1)))))))
theorem math_frexp_ev (a0 : Fl) : OLe (math_frexp_c a0) (math_frexp a0) := by
  unfold math_frexp_c math_frexp
  exact (OLe.cond (OLe.refl _) (OLe.bind (OLe.bind (math_IsInf_ev _ _) (fun _ => (OLe.cond (OLe.refl _) (OLe.refl _)))) (fun _ => (OLe.cond (OLe.refl _) (OLe.bind (math_normalize_ev _) (fun _ => (OLe.bind (OLe.refl _) (fun _ => (OLe.refl _)))))))))
noncomputable def math_Frexp_c (a0 : Fl) : Option (Fl × Int) :=
  Option.bind (math_frexp_c a0) fun (y1 : Fl × Int) =>
  some (y1.1, y1.2)
theorem math_Frexp_ev (a0 : Fl) : OLe (math_Frexp_c a0) (math_Frexp a0) := by
  unfold math_Frexp_c math_Frexp
  exact (OLe.bind (math_frexp_ev _) (fun _ => (OLe.refl _)))
noncomputable def math_Copysign_c (a0 : Fl) (a1 : Fl) : Option Fl :=
  Option.bind (fbits a0) fun (q1 : Int) =>
  Option.bind (fbits a1) fun (q3 : Int) =>
  some (some ((bitOr .u64 (bitAndnot .u64 q1 9223372036854775808) (bitAnd .u64 q3 9223372036854775808)) : Int).toNat : Fl)
theorem math_Copysign_ev (a0 : Fl) (a1 : Fl) : OLe (math_Copysign_c a0 a1) (math_Copysign a0 a1) := by
  unfold math_Copysign_c math_Copysign
  exact (OLe.bind (OLe.refl _) (fun _ => (OLe.bind (OLe.refl _) (fun _ => (OLe.refl _)))))
noncomputable def math_Inf_c (a0 : Int) : Option Fl :=
  Option.bind (bif (decide (a0 ≥ 0)) then
    (some 9218868437227405312)
    else
    (some 18442240474082181120)) fun (j1 : Int) =>
  some (some (j1 : Int).toNat : Fl)
theorem math_Inf_ev (a0 : Int) : OLe (math_Inf_c a0) (math_Inf a0) := by
  unfold math_Inf_c math_Inf
  exact (OLe.bind (OLe.cond (OLe.refl _) (OLe.refl _)) (fun _ => (OLe.refl _)))
noncomputable def math_ldexp_c (a0 : Fl) (a1 : Int) : Option Fl :=
  bif (fcmp .eql a0 (some 0 : Fl)) then
  (some a0)
  else
  (Option.bind (Option.bind (math_IsInf_c a0 0) fun (y7 : Bool) =>
      bif y7 then
      (some true)
      else
      (some (math_IsNaN a0))) fun (j2 : Bool) =>
    bif j2 then
    (some a0)
    else
    (Option.bind (math_normalize_c a0) fun (y11 : Fl × Int) =>
      Option.bind (fbits y11.1) fun (q18 : Int) =>
      bif (decide ((IntKind.wrap .i64 ((IntKind.wrap .i64 (a1 + y11.2)) + (IntKind.wrap .i64 ((bitAnd .i64 (IntKind.wrap .i64 (shr .u64 q18 52)) 2047) - 1023)))) < (-1075))) then
      (Option.bind (math_Copysign_c (some 0 : Fl) y11.1) fun (y21 : Fl) =>
        some y21)
      else
      (bif (decide ((IntKind.wrap .i64 ((IntKind.wrap .i64 (a1 + y11.2)) + (IntKind.wrap .i64 ((bitAnd .i64 (IntKind.wrap .i64 (shr .u64 q18 52)) 2047) - 1023)))) > 1023)) then
        (bif (fcmp .lss y11.1 (some 0 : Fl)) then
          (Option.bind (math_Inf_c (-1)) fun (y30 : Fl) =>
            some y30)
          else
          (Option.bind (math_Inf_c 1) fun (y37 : Fl) =>
            some y37))
        else
        (Option.bind (bif (decide ((IntKind.wrap .i64 ((IntKind.wrap .i64 (a1 + y11.2)) + (IntKind.wrap .i64 ((bitAnd .i64 (IntKind.wrap .i64 (shr .u64 q18 52)) 2047) - 1023)))) < (-1022))) then
            (some ((IntKind.wrap .i64 ((IntKind.wrap .i64 ((IntKind.wrap .i64 (a1 + y11.2)) + (IntKind.wrap .i64 ((bitAnd .i64 (IntKind.wrap .i64 (shr .u64 q18 52)) 2047) - 1023)))) + 53)), (some 4368491638549381120 : Fl)))
            else
            (some ((IntKind.wrap .i64 ((IntKind.wrap .i64 (a1 + y11.2)) + (IntKind.wrap .i64 ((bitAnd .i64 (IntKind.wrap .i64 (shr .u64 q18 52)) 2047) - 1023)))), (some 4607182418800017408 : Fl)))) fun (j44 : Int × Fl) =>
          some (farith .mul j44.2 (some ((bitOr .u64 (bitAndnot .u64 q18 9218868437227405312) (shl .u64 (IntKind.wrap .u64 (IntKind.wrap .i64 (j44.1 + 1023))) 52)) : Int).toNat : Fl))))))
theorem math_ldexp_ev (a0 : Fl) (a1 : Int) : OLe (math_ldexp_c a0 a1) (math_ldexp a0 a1) := by
  unfold math_ldexp_c math_ldexp
  exact (OLe.cond (OLe.refl _) (OLe.bind (OLe.bind (math_IsInf_ev _ _) (fun _ => (OLe.cond (OLe.refl _) (OLe.refl _)))) (fun _ => (OLe.cond (OLe.refl _) (OLe.bind (math_normalize_ev _) (fun _ => (OLe.bind (OLe.refl _) (fun _ => (OLe.cond (OLe.bind (math_Copysign_ev _ _) (fun _ => (OLe.refl _))) (OLe.cond (OLe.cond (OLe.bind (math_Inf_ev _) (fun _ => (OLe.refl _))) (OLe.bind (math_Inf_ev _) (fun _ => (OLe.refl _)))) (OLe.bind (OLe.cond (OLe.refl _) (OLe.refl _)) (fun _ => (OLe.refl _)))))))))))))
noncomputable def math_Ldexp_c (a0 : Fl) (a1 : Int) : Option Fl :=
  Option.bind (math_ldexp_c a0 a1) fun (y1 : Fl) =>
  some y1
theorem math_Ldexp_ev (a0 : Fl) (a1 : Int) : OLe (math_Ldexp_c a0 a1) (math_Ldexp a0 a1) := by
  unfold math_Ldexp_c math_Ldexp
  exact (OLe.bind (math_ldexp_ev _ _) (fun _ => (OLe.refl _)))
noncomputable def math_mod_l60_c (y17 : Fl) (y24 : Fl × Int) : Fl → Option ((Fl) ⊕ (Fl)) := fun s47 =>
  bif (fcmp .geq s47 y17) then
  (Option.bind (math_Frexp_c s47) fun (y63 : Fl × Int) =>
    Option.bind (bif (fcmp .lss y63.1 y24.1) then
      (some (IntKind.wrap .i64 (y63.2 - 1)))
      else
      (some y63.2)) fun (j70 : Int) =>
    Option.bind (math_Ldexp_c y17 (IntKind.wrap .i64 (j70 - y24.2))) fun (y76 : Fl) =>
    some (Sum.inl (farith .sub s47 y76)))
  else
  (some (Sum.inr s47))
theorem math_mod_l60_ev (y17 : Fl) (y24 : Fl × Int) (s47 : Fl) : OLe (math_mod_l60_c y17 y24 s47) (math_mod_l60 y17 y24 s47) := by
  unfold math_mod_l60_c math_mod_l60
  exact (OLe.cond (OLe.bind (math_Frexp_ev _) (fun _ => (OLe.bind (OLe.cond (OLe.refl _) (OLe.refl _)) (fun _ => (OLe.bind (math_Ldexp_ev _ _) (fun _ => (OLe.refl _))))))) (OLe.refl _))
noncomputable def math_mod_c (a0 : Fl) (a1 : Fl) : Option Fl :=
  Option.bind (bif (fcmp .eql a1 (some 0 : Fl)) then
    (some true)
    else
    (Option.bind (math_IsInf_c a0 0) fun (y7 : Bool) =>
      bif y7 then
      (some true)
      else
      (bif (math_IsNaN a0) then
        (some true)
        else
        (some (math_IsNaN a1))))) fun (j1 : Bool) =>
  bif j1 then
  (some math_NaN)
  else
  (Option.bind (math_Abs_c a1) fun (y17 : Fl) =>
    Option.bind (math_Frexp_c y17) fun (y24 : Fl × Int) =>
    Option.bind (bif (fcmp .lss a0 (some 0 : Fl)) then
      (some (fneg a0))
      else
      (some a0)) fun (j31 : Fl) =>
    Option.bind (loopF 1000000 (math_mod_l60_c y17 y24) j31) fun (r45 : Fl) =>
    Option.bind (bif (fcmp .lss a0 (some 0 : Fl)) then
      (some (fneg r45))
      else
      (some r45)) fun (j85 : Fl) =>
    some j85)
theorem math_mod_ev (a0 : Fl) (a1 : Fl) : OLe (math_mod_c a0 a1) (math_mod a0 a1) := by
  unfold math_mod_c math_mod
  exact (OLe.bind (OLe.cond (OLe.refl _) (OLe.bind (math_IsInf_ev _ _) (fun _ => (OLe.cond (OLe.refl _) (OLe.cond (OLe.refl _) (OLe.refl _)))))) (fun _ => (OLe.cond (OLe.refl _) (OLe.bind (math_Abs_ev _) (fun _ => (OLe.bind (math_Frexp_ev _) (fun _ => (OLe.bind (OLe.cond (OLe.refl _) (OLe.refl _)) (fun _ => (OLe.bind (OLe.loop (fun _ => math_mod_l60_ev _ _ _)) (fun _ => (OLe.bind (OLe.cond (OLe.refl _) (OLe.refl _)) (fun _ => (OLe.refl _))))))))))))))
noncomputable def math_Mod_c (a0 : Fl) (a1 : Fl) : Option Fl :=
  Option.bind (math_mod_c a0 a1) fun (y1 : Fl) =>
  some y1
theorem math_Mod_ev (a0 : Fl) (a1 : Fl) : OLe (math_Mod_c a0 a1) (math_Mod a0 a1) := by
  unfold math_Mod_c math_Mod
  exact (OLe.bind (math_mod_ev _ _) (fun _ => (OLe.refl _)))
noncomputable def vec_mod_c (a0 : Fl) (a1 : Fl) : Option Fl :=
  Option.bind (math_Mod_c a0 a1) fun (y1 : Fl) =>
  some y1
theorem vec_mod_ev (a0 : Fl) (a1 : Fl) : OLe (vec_mod_c a0 a1) (vec_mod a0 a1) := by
  unfold vec_mod_c vec_mod
  exact (OLe.bind (math_Mod_ev _ _) (fun _ => (OLe.refl _)))
noncomputable def vec_pair_mod_c (a0 : S121) : Option Fl :=
  Option.bind (vec_mod_c a0.f0 a0.f1) fun (y2 : Fl) =>
  some y2
theorem vec_pair_mod_ev (a0 : S121) : OLe (vec_pair_mod_c a0) (vec_pair_mod a0) := by
  unfold vec_pair_mod_c vec_pair_mod
  exact (OLe.bind (vec_mod_ev _ _) (fun _ => (OLe.refl _)))
noncomputable def vec_Arith_c (a0 : Int) (a1 : Fl) (a2 : Fl) : Option (Fl × Int) :=
  bif ((decide (a0 < 1)) || (decide (a0 > 6))) then
  (some ((some 0 : Fl), 60))
  else
  (bif ((IntKind.wrap .i64 (a0 - 1)) == 0) then
    (some ((vec_told (vec_pair_add (⟨a1, a2⟩ : S121))), 0))
    else
    (bif ((IntKind.wrap .i64 (a0 - 1)) == 1) then
      (some ((vec_told (vec_pair_sub (⟨a1, a2⟩ : S121))), 0))
      else
      (bif ((IntKind.wrap .i64 (a0 - 1)) == 2) then
        (some ((vec_told (vec_pair_mul (⟨a1, a2⟩ : S121))), 0))
        else
        (bif ((IntKind.wrap .i64 (a0 - 1)) == 3) then
          (some ((vec_told (vec_pair_div (⟨a1, a2⟩ : S121))), 0))
          else
          (bif ((IntKind.wrap .i64 (a0 - 1)) == 4) then
            (Option.bind (vec_pair_mod_c (⟨a1, a2⟩ : S121)) fun (y59 : Fl) =>
              some ((vec_told y59), 0))
            else
            (bif ((IntKind.wrap .i64 (a0 - 1)) == 5) then
              (none)
              else
              (none)))))))
theorem vec_Arith_ev (a0 : Int) (a1 : Fl) (a2 : Fl) : OLe (vec_Arith_c a0 a1 a2) (vec_Arith a0 a1 a2) := by
  unfold vec_Arith_c vec_Arith
  exact (OLe.cond (OLe.refl _) (OLe.cond (OLe.refl _) (OLe.cond (OLe.refl _) (OLe.cond (OLe.refl _) (OLe.cond (OLe.refl _) (OLe.cond (OLe.bind (vec_pair_mod_ev _) (fun _ => (OLe.refl _))) (OLe.cond (OLe.refl _) (OLe.refl _))))))))
noncomputable def vec_nameless_c (a0 : List S76) : Option (List S76) :=
  Option.bind (labels_Without_c a0 [(⟨#[95, 95, 110, 97, 109, 101, 95, 95]⟩ : ByteArray)]) fun (y9 : (List S76) × Int) =>
  some y9.1
theorem vec_nameless_ev (a0 : List S76) : OLe (vec_nameless_c a0) (vec_nameless a0) := by
  unfold vec_nameless_c vec_nameless
  exact (OLe.bind (labels_Without_ev _ _) (fun _ => (OLe.refl _)))
noncomputable def vec_Holds_c (a0 : Int) (a1 : Fl) (a2 : Fl) : Option (Bool × Int) :=
  bif ((decide (a0 < 7)) || (decide (a0 > 12))) then
  (some (false, 60))
  else
  (bif ((IntKind.wrap .i64 (a0 - 7)) == 0) then
    (some ((vec_pair_eq (⟨a1, a2⟩ : S121)), 0))
    else
    (bif ((IntKind.wrap .i64 (a0 - 7)) == 1) then
      (some ((vec_pair_ne (⟨a1, a2⟩ : S121)), 0))
      else
      (bif ((IntKind.wrap .i64 (a0 - 7)) == 2) then
        (some ((vec_pair_gt (⟨a1, a2⟩ : S121)), 0))
        else
        (bif ((IntKind.wrap .i64 (a0 - 7)) == 3) then
          (some ((vec_pair_lt (⟨a1, a2⟩ : S121)), 0))
          else
          (bif ((IntKind.wrap .i64 (a0 - 7)) == 4) then
            (some ((vec_pair_ge (⟨a1, a2⟩ : S121)), 0))
            else
            (bif ((IntKind.wrap .i64 (a0 - 7)) == 5) then
              (some ((vec_pair_le (⟨a1, a2⟩ : S121)), 0))
              else
              (none)))))))
theorem vec_Holds_ev (a0 : Int) (a1 : Fl) (a2 : Fl) : OLe (vec_Holds_c a0 a1 a2) (vec_Holds a0 a1 a2) := by
  unfold vec_Holds_c vec_Holds
  exact (OLe.cond (OLe.refl _) (OLe.cond (OLe.refl _) (OLe.cond (OLe.refl _) (OLe.cond (OLe.refl _) (OLe.cond (OLe.refl _) (OLe.cond (OLe.refl _) (OLe.cond (OLe.refl _) (OLe.refl _))))))))
noncomputable def vec_result_c (a0 : Int) (a1 : Fl) (a2 : Fl) (a3 : List S76) (a4 : Fl) (a5 : Bool) : Option (S38 × Bool) :=
  bif (decide (a0 ≤ 6)) then
  (Option.bind (vec_Arith_c a0 a1 a2) fun (y3 : Fl × Int) =>
    Option.bind (vec_nameless_c a3) fun (y10 : (List S76)) =>
    some ((⟨y10, y3.1⟩ : S38), true))
  else
  (Option.bind (vec_Holds_c a0 a1 a2) fun (y24 : Bool × Int) =>
    bif (a5 && y24.1) then
    (Option.bind (vec_nameless_c a3) fun (y31 : (List S76)) =>
      some ((⟨y31, (some 4607182418800017408 : Fl)⟩ : S38), true))
    else
    (bif a5 then
      (Option.bind (vec_nameless_c a3) fun (y46 : (List S76)) =>
        some ((⟨y46, (some 0 : Fl)⟩ : S38), true))
      else
      (some ((⟨a3, a4⟩ : S38), y24.1))))
theorem vec_result_ev (a0 : Int) (a1 : Fl) (a2 : Fl) (a3 : List S76) (a4 : Fl) (a5 : Bool) : OLe (vec_result_c a0 a1 a2 a3 a4 a5) (vec_result a0 a1 a2 a3 a4 a5) := by
  unfold vec_result_c vec_result
  exact (OLe.cond (OLe.bind (vec_Arith_ev _ _ _) (fun _ => (OLe.bind (vec_nameless_ev _) (fun _ => (OLe.refl _))))) (OLe.bind (vec_Holds_ev _ _ _) (fun _ => (OLe.cond (OLe.bind (vec_nameless_ev _) (fun _ => (OLe.refl _))) (OLe.cond (OLe.bind (vec_nameless_ev _) (fun _ => (OLe.refl _))) (OLe.refl _))))))
noncomputable def vec_include_c (a0 : List S76) (a1 : List S76) (a2 : List ByteArray) : Option (List S76) :=
  Option.bind (labels_Without_c a0 a2) fun (y1 : (List S76) × Int) =>
  Option.bind (labels_Keep_c a1 a2) fun (y10 : (List S76) × Int) =>
  Option.bind (app y1.1 y10.1) fun (zs19 : List S76) =>
  sortBindC (fun x0 x1 => some (vec_include_1 x0 x1)) zs19 fun (zs25 : List S76) =>
  some zs25
theorem vec_include_ev (a0 : List S76) (a1 : List S76) (a2 : List ByteArray) : OLe (vec_include_c a0 a1 a2) (vec_include a0 a1 a2) := by
  unfold vec_include_c vec_include
  exact (OLe.bind (labels_Without_ev _ _) (fun _ => (OLe.bind (labels_Keep_ev _ _) (fun _ => (OLe.bind (OLe.refl _) (fun _ => (OLe.sort (fun _ _ => OLe.refl _) (fun _ => (OLe.refl _)))))))))
noncomputable def vec_shown_c (a0 : S38) (a1 : S38) (a2 : S24) : Option (List S76) :=
  bif (a2.f0 != 0) then
  (Option.bind (vec_include_c a0.f0 a1.f0 a2.f3) fun (y5 : (List S76)) =>
    some y5)
  else
  (bif a2.f1 then
    (Option.bind (labels_Keep_c a0.f0 a2.f2) fun (y15 : (List S76) × Int) =>
      some y15.1)
    else
    (Option.bind (labels_Without_c a0.f0 a2.f2) fun (y24 : (List S76) × Int) =>
      some y24.1))
theorem vec_shown_ev (a0 : S38) (a1 : S38) (a2 : S24) : OLe (vec_shown_c a0 a1 a2) (vec_shown a0 a1 a2) := by
  unfold vec_shown_c vec_shown
  exact (OLe.cond (OLe.bind (vec_include_ev _ _ _) (fun _ => (OLe.refl _))) (OLe.cond (OLe.bind (labels_Keep_ev _ _) (fun _ => (OLe.refl _))) (OLe.bind (labels_Without_ev _ _) (fun _ => (OLe.refl _)))))
noncomputable def vec_Binary_l99_c (a3 : S24) (j60 : (List S38) × (List S38)) : ((List (ByteArray × S38)) × Int) → Option (((List (ByteArray × S38)) × Int) ⊕ (((List (ByteArray × S38))) ⊕ ((List S38) × Int))) := fun s85 =>
  bif (decide (s85.2 < (j60.2.length : Int))) then
  (Option.bind (ix j60.2 s85.2) fun (x102 : S38) =>
    Option.bind (vec_signature_c x102.f0 a3) fun (y117 : ByteArray) =>
    Option.bind (some ((mget Ky.str s85.1 y117).getD (⟨[], (some 0 : Fl)⟩ : S38))) fun (y121 : S38) =>
    bif (mget Ky.str s85.1 y117).isSome then
    (some (Sum.inr (Sum.inr ([], 150))))
    else
    (some (Sum.inl ((mput Ky.str s85.1 y117 x102), (IntKind.wrap .i64 (s85.2 + 1))))))
  else
  (some (Sum.inr (Sum.inl s85.1)))
theorem vec_Binary_l99_ev (a3 : S24) (j60 : (List S38) × (List S38)) (s85 : (List (ByteArray × S38)) × Int) : OLe (vec_Binary_l99_c a3 j60 s85) (vec_Binary_l99 a3 j60 s85) := by
  unfold vec_Binary_l99_c vec_Binary_l99
  exact (OLe.cond (OLe.bind (OLe.refl _) (fun _ => (OLe.bind (vec_signature_ev _ _) (fun _ => (OLe.bind (OLe.refl _) (fun _ => (OLe.cond (OLe.refl _) (OLe.refl _)))))))) (OLe.refl _))
noncomputable def vec_Binary_l169_c (a0 : Int) (a3 : S24) (a4 : Bool) (j60 : (List S38) × (List S38)) (r93 : (List (ByteArray × S38))) : ((List (ByteArray × Bool)) × (List S38) × Int) → Option (((List (ByteArray × Bool)) × (List S38) × Int) ⊕ (((List S38)) ⊕ ((List S38) × Int))) := fun s149 =>
  bif (decide (s149.2.2 < (j60.1.length : Int))) then
  (Option.bind ((Option.bind (ix j60.1 s149.2.2) fun (x184 : S38) =>
      Option.bind (vec_signature_c x184.f0 a3) fun (y199 : ByteArray) =>
      Option.bind (some ((mget Ky.str r93 y199).getD (⟨[], (some 0 : Fl)⟩ : S38))) fun (y203 : S38) =>
      bif (!((mget Ky.str r93 y199).isSome)) then
      (some (Sum.inl (s149.1, s149.2.1)))
      else
      (Option.bind (bif (a3.f0 == 2) then
          (some (y203.f1, x184.f1))
          else
          (some (x184.f1, y203.f1))) fun (j213 : Fl × Fl) =>
        Option.bind (vec_result_c a0 j213.1 j213.2 x184.f0 j213.1 a4) fun (y223 : S38 × Bool) =>
        bif (!y223.2) then
        (some (Sum.inl (s149.1, s149.2.1)))
        else
        (Option.bind (bif (a3.f0 == 0) then
            (some ((mget Ky.str s149.1 y199).getD false))
            else
            (some false)) fun (j235 : Bool) =>
          bif j235 then
          (some (Sum.inr (Sum.inr (Sum.inr ([], 150)))))
          else
          (Option.bind (vec_shown_c y223.1 y203 a3) fun (y244 : (List S76)) =>
            Option.bind (app s149.2.1 [(⟨y244, y223.1.f1⟩ : S38)]) fun (zs261 : List S38) =>
            some (Sum.inl ((mput Ky.str s149.1 y199 true), zs261))))) : Option (((List (ByteArray × Bool)) × (List S38)) ⊕ (((List (ByteArray × Bool)) × (List S38) × Int) ⊕ (((List S38)) ⊕ ((List S38) × Int)))))) fun (j172 : ((List (ByteArray × Bool)) × (List S38)) ⊕ (((List (ByteArray × Bool)) × (List S38) × Int) ⊕ (((List S38)) ⊕ ((List S38) × Int)))) =>
    match j172 with
    | Sum.inl j174 => some (Sum.inl (j174.1, j174.2, (IntKind.wrap .i64 (s149.2.2 + 1))))
    | Sum.inr v268 => some v268)
  else
  (some (Sum.inr (Sum.inl s149.2.1)))
theorem vec_Binary_l169_ev (a0 : Int) (a3 : S24) (a4 : Bool) (j60 : (List S38) × (List S38)) (r93 : (List (ByteArray × S38))) (s149 : (List (ByteArray × Bool)) × (List S38) × Int) : OLe (vec_Binary_l169_c a0 a3 a4 j60 r93 s149) (vec_Binary_l169 a0 a3 a4 j60 r93 s149) := by
  unfold vec_Binary_l169_c vec_Binary_l169
  exact (OLe.cond (OLe.bind (OLe.bind (OLe.refl _) (fun _ => (OLe.bind (vec_signature_ev _ _) (fun _ => (OLe.bind (OLe.refl _) (fun _ => (OLe.cond (OLe.refl _) (OLe.bind (OLe.cond (OLe.refl _) (OLe.refl _)) (fun _ => (OLe.bind (vec_result_ev _ _ _ _ _ _) (fun _ => (OLe.cond (OLe.refl _) (OLe.bind (OLe.cond (OLe.refl _) (OLe.refl _)) (fun _ => (OLe.cond (OLe.refl _) (OLe.bind (vec_shown_ev _ _ _) (fun _ => (OLe.bind (OLe.refl _) (fun _ => (OLe.refl _)))))))))))))))))))) (fun j => by cases j with | inl a => exact (OLe.refl _) | inr b => exact (OLe.refl _))) (OLe.refl _))
noncomputable def vec_Binary_c (a0 : Int) (a1 : List S38) (a2 : List S38) (a3 : S24) (a4 : Bool) : Option ((List S38) × Int) :=
  bif ((decide (a0 < 1)) || (decide (a0 > 15))) then
  (some ([], 60))
  else
  (Option.bind (vec_wrong_c a0 a3) fun (y9 : Int) =>
    bif (y9 != 0) then
    (some ([], y9))
    else
    (Option.bind (vec_Vector_c a1) fun (y12 : (List S38) × Int) =>
      bif (y12.2 != 0) then
      (some ([], y12.2))
      else
      (Option.bind (vec_Vector_c a2) fun (y22 : (List S38) × Int) =>
        bif (y22.2 != 0) then
        (some ([], y22.2))
        else
        (bif (decide (a0 ≥ 13)) then
          (Option.bind (vec_sets_c a0 y12.1 y22.1 a3) fun (y38 : (List S38)) =>
            Option.bind (vec_Vector_c y38) fun (y51 : (List S38) × Int) =>
            some (y51.1, y51.2))
          else
          (Option.bind (bif (a3.f0 == 2) then
              (some (y22.1, y12.1))
              else
              (some (y12.1, y22.1))) fun (j60 : (List S38) × (List S38)) =>
            Option.bind (loopF 1000000 (vec_Binary_l99_c a3 j60) (([] : List (ByteArray × S38)), 0)) fun (r83 : ((List (ByteArray × S38))) ⊕ ((List S38) × Int)) =>
            match r83 with
            | Sum.inl r93 => Option.bind (loopF 1000000 (vec_Binary_l169_c a0 a3 a4 j60 r93) (([] : List (ByteArray × Bool)), [], 0)) fun (r147 : ((List S38)) ⊕ ((List S38) × Int)) =>
              match r147 with
              | Sum.inl r161 => Option.bind (vec_Vector_c r161) fun (y273 : (List S38) × Int) =>
                some (y273.1, y273.2)
              | Sum.inr v282 => some v282
            | Sum.inr v283 => some v283)))))
theorem vec_Binary_ev (a0 : Int) (a1 : List S38) (a2 : List S38) (a3 : S24) (a4 : Bool) : OLe (vec_Binary_c a0 a1 a2 a3 a4) (vec_Binary a0 a1 a2 a3 a4) := by
  unfold vec_Binary_c vec_Binary
  exact (OLe.cond (OLe.refl _) (OLe.bind (vec_wrong_ev _ _) (fun _ => (OLe.cond (OLe.refl _) (OLe.bind (vec_Vector_ev _) (fun _ => (OLe.cond (OLe.refl _) (OLe.bind (vec_Vector_ev _) (fun _ => (OLe.cond (OLe.refl _) (OLe.cond (OLe.bind (vec_sets_ev _ _ _ _) (fun _ => (OLe.bind (vec_Vector_ev _) (fun _ => (OLe.refl _))))) (OLe.bind (OLe.cond (OLe.refl _) (OLe.refl _)) (fun _ => (OLe.bind (OLe.loop (fun _ => vec_Binary_l99_ev _ _ _)) (fun j => by cases j with | inl a => exact (OLe.bind (OLe.loop (fun _ => vec_Binary_l169_ev _ _ _ _ _ _)) (fun j => by cases j with | inl a => exact (OLe.bind (vec_Vector_ev _) (fun _ => (OLe.refl _))) | inr b => exact (OLe.refl _))) | inr b => exact (OLe.refl _))))))))))))))))
noncomputable def tocsinref04_Compare_l17_c (a0 : List S76) (a1 : List S76) : Int → Option ((Int) ⊕ ((Unit) ⊕ (Int))) := fun s7 =>
  bif ((decide (s7 < (a0.length : Int))) && (decide (s7 < (a1.length : Int)))) then
  (Option.bind (ix a0 s7) fun (x26 : S76) =>
    Option.bind (ix a1 s7) fun (x34 : S76) =>
    bif ((tocsinref04_side x26.f0 x34.f0) != 0) then
    (some (Sum.inr (Sum.inr (tocsinref04_side x26.f0 x34.f0))))
    else
    (Option.bind (ix a0 s7) fun (x43 : S76) =>
      Option.bind (ix a1 s7) fun (x51 : S76) =>
      bif ((tocsinref04_side x43.f1 x51.f1) != 0) then
      (some (Sum.inr (Sum.inr (tocsinref04_side x43.f1 x51.f1))))
      else
      (some (Sum.inl (IntKind.wrap .i64 (s7 + 1))))))
  else
  (some (Sum.inr (Sum.inl ())))
theorem tocsinref04_Compare_l17_ev (a0 : List S76) (a1 : List S76) (s7 : Int) : OLe (tocsinref04_Compare_l17_c a0 a1 s7) (tocsinref04_Compare_l17 a0 a1 s7) := by
  unfold tocsinref04_Compare_l17_c tocsinref04_Compare_l17
  exact (OLe.cond (OLe.bind (OLe.refl _) (fun _ => (OLe.bind (OLe.refl _) (fun _ => (OLe.cond (OLe.refl _) (OLe.bind (OLe.refl _) (fun _ => (OLe.bind (OLe.refl _) (fun _ => (OLe.cond (OLe.refl _) (OLe.refl _))))))))))) (OLe.refl _))
noncomputable def tocsinref04_Compare_c (a0 : List S76) (a1 : List S76) : Option Int :=
  Option.bind (loopF 1000000 (tocsinref04_Compare_l17_c a0 a1) 0) fun (r5 : (Unit) ⊕ (Int)) =>
  match r5 with
  | Sum.inl r13 => bif (decide ((a0.length : Int) < (a1.length : Int))) then
    (some (-1))
    else
    (bif (decide ((a0.length : Int) > (a1.length : Int))) then
      (some 1)
      else
      (some 0))
  | Sum.inr v62 => some v62
theorem tocsinref04_Compare_ev (a0 : List S76) (a1 : List S76) : OLe (tocsinref04_Compare_c a0 a1) (tocsinref04_Compare a0 a1) := by
  unfold tocsinref04_Compare_c tocsinref04_Compare
  exact (OLe.bind (OLe.loop (fun _ => tocsinref04_Compare_l17_ev _ _ _)) (fun j => by cases j with | inl a => exact (OLe.cond (OLe.refl _) (OLe.cond (OLe.refl _) (OLe.refl _))) | inr b => exact (OLe.refl _)))
noncomputable def tocsinref04_Same_c (a0 : List S76) (a1 : List S76) : Option Bool :=
  Option.bind (tocsinref04_Compare_c a0 a1) fun (y1 : Int) =>
  some (y1 == 0)
theorem tocsinref04_Same_ev (a0 : List S76) (a1 : List S76) : OLe (tocsinref04_Same_c a0 a1) (tocsinref04_Same a0 a1) := by
  unfold tocsinref04_Same_c tocsinref04_Same
  exact (OLe.bind (tocsinref04_Compare_ev _ _) (fun _ => (OLe.refl _)))
noncomputable def tocsinref11_SamePoints_l18_c (a0 : List S38) (a1 : List S38) : Int → Option ((Int) ⊕ ((Unit) ⊕ (Bool))) := fun s8 =>
  bif (decide (s8 < (a0.length : Int))) then
  (Option.bind (Option.bind (ix a0 s8) fun (x26 : S38) =>
      Option.bind (ix a1 s8) fun (x39 : S38) =>
      Option.bind (tocsinref04_Same_c x26.f0 x39.f0) fun (y52 : Bool) =>
      bif (!y52) then
      (some true)
      else
      (Option.bind (ix a0 s8) fun (x55 : S38) =>
        Option.bind (fbits x55.f1) fun (q68 : Int) =>
        Option.bind (ix a1 s8) fun (x70 : S38) =>
        Option.bind (fbits x70.f1) fun (q83 : Int) =>
        some (q68 != q83))) fun (j21 : Bool) =>
    bif j21 then
    (some (Sum.inr (Sum.inr false)))
    else
    (some (Sum.inl (IntKind.wrap .i64 (s8 + 1)))))
  else
  (some (Sum.inr (Sum.inl ())))
theorem tocsinref11_SamePoints_l18_ev (a0 : List S38) (a1 : List S38) (s8 : Int) : OLe (tocsinref11_SamePoints_l18_c a0 a1 s8) (tocsinref11_SamePoints_l18 a0 a1 s8) := by
  unfold tocsinref11_SamePoints_l18_c tocsinref11_SamePoints_l18
  exact (OLe.cond (OLe.bind (OLe.bind (OLe.refl _) (fun _ => (OLe.bind (OLe.refl _) (fun _ => (OLe.bind (tocsinref04_Same_ev _ _) (fun _ => (OLe.cond (OLe.refl _) (OLe.bind (OLe.refl _) (fun _ => (OLe.bind (OLe.refl _) (fun _ => (OLe.bind (OLe.refl _) (fun _ => (OLe.bind (OLe.refl _) (fun _ => (OLe.refl _)))))))))))))))) (fun _ => (OLe.cond (OLe.refl _) (OLe.refl _)))) (OLe.refl _))
noncomputable def tocsinref11_SamePoints_c (a0 : List S38) (a1 : List S38) : Option Bool :=
  bif ((a0.length : Int) != (a1.length : Int)) then
  (some false)
  else
  (Option.bind (loopF 1000000 (tocsinref11_SamePoints_l18_c a0 a1) 0) fun (r6 : (Unit) ⊕ (Bool)) =>
    match r6 with
    | Sum.inl r14 => some true
    | Sum.inr v86 => some v86)
theorem tocsinref11_SamePoints_ev (a0 : List S38) (a1 : List S38) : OLe (tocsinref11_SamePoints_c a0 a1) (tocsinref11_SamePoints a0 a1) := by
  unfold tocsinref11_SamePoints_c tocsinref11_SamePoints
  exact (OLe.cond (OLe.refl _) (OLe.bind (OLe.loop (fun _ => tocsinref11_SamePoints_l18_ev _ _ _)) (fun j => by cases j with | inl a => exact (OLe.refl _) | inr b => exact (OLe.refl _))))
noncomputable def tocsinlaw15_known_c : Option Bool :=
  Option.bind (vec_Binary_c 1 [(⟨[(⟨(⟨#[97]⟩ : ByteArray), (⟨#[49]⟩ : ByteArray)⟩ : S76)], (some 4611686018427387904 : Fl)⟩ : S38)] [(⟨[(⟨(⟨#[97]⟩ : ByteArray), (⟨#[49]⟩ : ByteArray)⟩ : S76), (⟨(⟨#[98]⟩ : ByteArray), (⟨#[120]⟩ : ByteArray)⟩ : S76)], (some 4613937818241073152 : Fl)⟩ : S38)] (⟨0, true, [(⟨#[97]⟩ : ByteArray)], []⟩ : S24) false) fun (y35 : (List S38) × Int) =>
  Option.bind (vec_Arith_c 5 (some 13842939354630062080 : Fl) (some 4613937818241073152 : Fl)) fun (y44 : Fl × Int) =>
  Option.bind (bif (y35.2 == 0) then
    (bif (y44.2 == 0) then
      (bif (fcmp .eql y44.1 (some 13830554455654793216 : Fl)) then
        (Option.bind (ix [(⟨[(⟨(⟨#[97]⟩ : ByteArray), (⟨#[49]⟩ : ByteArray)⟩ : S76)], (some 4611686018427387904 : Fl)⟩ : S38)] 0) fun (x59 : S38) =>
          Option.bind (tocsinref11_SamePoints_c y35.1 [(⟨x59.f0, (some 4617315517961601024 : Fl)⟩ : S38)]) fun (y76 : Bool) =>
          some y76)
        else
        (some false))
      else
      (some false))
    else
    (some false)) fun (j51 : Bool) =>
  some j51
theorem tocsinlaw15_known_ev  : OLe (tocsinlaw15_known_c ) (tocsinlaw15_known ) := by
  unfold tocsinlaw15_known_c tocsinlaw15_known
  exact (OLe.bind (vec_Binary_ev _ _ _ _ _) (fun _ => (OLe.bind (vec_Arith_ev _ _ _) (fun _ => (OLe.bind (OLe.cond (OLe.cond (OLe.cond (OLe.bind (OLe.refl _) (fun _ => (OLe.bind (tocsinref11_SamePoints_ev _ _) (fun _ => (OLe.refl _))))) (OLe.refl _)) (OLe.refl _)) (OLe.refl _)) (fun _ => (OLe.refl _)))))))
end Go.Proofs.YtkjkkimnjpodiaaGreatDoor

/- What must come of fixed calls comes of them: run out by the kernel. -/
set_option maxRecDepth 100000
namespace Go.Proofs.YtkjkkimnjpodiaaGreatDoor
theorem known_true : tocsinlaw15_known = some true := tocsinlaw15_known_ev _ (by kernel_rfl)
end Go.Proofs.YtkjkkimnjpodiaaGreatDoor

set_option linter.unusedVariables false
set_option linter.unusedSimpArgs false
set_option maxRecDepth 100000
namespace Go.Proofs.YtkjkkimnjpodiaaGreatDoor
open Go.GB Go.Lib
theorem inB_self {m : MT} {l : List PT} {x : PT} (h : x ∈ l) : inB m l x = true := List.any_eq_true.2 ⟨x, h, (strBeq _ _).2 rfl⟩
theorem vsort_of {l : List PT} (h : RiseP l) : vsort l = l := rise_unique (vsort_perm l) (vsort_rise h.dist) h
theorem DistP.filter {l : List PT} (h : DistP l) (p : PT → Bool) : DistP (l.filter p) := List.Pairwise.filter p h
theorem RiseP.filter {l : List PT} (h : RiseP l) (p : PT → Bool) : RiseP (l.filter p) := List.Pairwise.filter p h
theorem part_perm (p : PT → Bool) : ∀ l : List PT, (l.filter p ++ l.filter fun x => !p x).Perm l
  | [] => List.Perm.refl _
  | x :: l => by
    cases h : p x with
    | true => simp only [List.filter_cons, h, if_true, Bool.not_true, Bool.false_eq_true, if_false, List.cons_append]; exact (part_perm p l).cons x
    | false => simp only [List.filter_cons, h, if_true, Bool.not_false, Bool.false_eq_true, if_false]; exact List.perm_middle.trans ((part_perm p l).cons x)
theorem lx_one {α : Type} {l : List α} {i : Nat} (h : i < l.length) (hl : l.length ≤ 2147483648) : lx l (i : Int) (IntKind.wrap .i64 ((i : Int) + 1)) = some [l[i]] := by
  rw [wrap_up (show i < 4294967296 by omega), lx_eq' (by omega) (by omega)]
  rw [List.take_add_one, List.getElem?_eq_getElem h]
  simp only [Option.toList_some]
  rw [List.drop_append_of_le_length (by simp; omega)]
  simp
where
  lx_eq' {α : Type} {xs : List α} {l r : Nat} (h1 : l ≤ r) (h2 : r ≤ xs.length) : lx xs (l : Int) (r : Int) = some ((xs.take r).drop l) := by
    unfold lx
    rw [if_pos ⟨by omega, by omega, by omega⟩]; rfl
open Classical in
theorem inner_eq {v c : List PT} {y20 y48 : List PT × Int} (h20 : y20.1 = c) (h48 : y48.1 = v) (hv : ∀ p ∈ v, FinP p) (hc : ∀ p ∈ c, FinP p) (lv : v.length ≤ 2147483000) (lc : c.length ≤ 2147483000) {i : Nat} (hi : i < v.length) (hin : v[i] ∈ c) :
    loopO (tocsinlaw15_VecSets_l153 y20 y48 (i : Int)) (false, 0) = some true := by
  subst h20 h48
  have := up_inv (body := tocsinlaw15_VecSets_l153 y20 y48 (i : Int)) (fun k => ((y20.1.take k).any (fun x => decide (x = y48.1[i])), (k : Int))) (n := y20.1.length) (r := y20.1.any (fun x => decide (x = y48.1[i]))) (fun k hk => by
      unfold tocsinlaw15_VecSets_l153
      rw [show decide ((((y20.1.take k).any (fun x => decide (x = y48.1[i])), (k : Int)) : Bool × Int).2 < (y20.1.length : Int)) = true from decide_eq_true (by show (k : Int) < _; omega)]
      simp only [cond_true]
      rw [List.take_add_one, List.getElem?_eq_getElem hk, List.any_append, wrap_up (show k < 4294967296 by omega)]
      cases hb : (y20.1.take k).any (fun x => decide (x = y48.1[i])) with
      | true => simp
      | false =>
        simp only [cond_false]
        rw [← wrap_up (show k < 4294967296 by omega), lx_one hk (by omega), lx_one hi (by omega), wrap_up (show k < 4294967296 by omega)]
        simp only [Option.bind_some]
        rw [Same_eq (by intro p hp; simp at hp; rw [hp]; exact hc _ (List.getElem_mem hk)) (by intro p hp; simp at hp; rw [hp]; exact hv _ (List.getElem_mem hi)) (by simp)]
        simp)
    (by
      unfold tocsinlaw15_VecSets_l153
      rw [show decide ((((y20.1.take y20.1.length).any (fun x => decide (x = y48.1[i])), (y20.1.length : Int)) : Bool × Int).2 < (y20.1.length : Int)) = false from decide_eq_false (by show ¬ (y20.1.length : Int) < _; omega), List.take_length]; rfl) 0 (by omega)
  rw [List.take_zero] at this
  rw [show (([] : List PT).any (fun x => decide (x = y48.1[i])), ((0 : Nat) : Int)) = (false, (0 : Int)) from rfl] at this
  rw [this, show y20.1.any (fun x => decide (x = y48.1[i])) = true from List.any_eq_true.2 ⟨_, hin, by simp⟩]
theorem outer_eq {v c : List PT} {e : Int} (hv : ∀ p ∈ v, FinP p) (hc : ∀ p ∈ c, FinP p) (lv : v.length ≤ 2147483000) (lc : c.length ≤ 2147483000) (hin : e = 0 → ∀ p ∈ v, p ∈ c) :
    loopO (tocsinlaw15_VecSets_l129 (c, e) (v, 0)) 0 = some (.inl ()) := by
  by_cases he : e = 0
  · subst he
    rw [up_all (n := v.length) (fun _ => true) (fun i hi => ?_) ?_]
    · rw [show (List.range v.length).all (fun _ => true) = true by simp]; rfl
    · unfold tocsinlaw15_VecSets_l129
      rw [show decide ((v.length : Int) < (v.length : Int)) = false from decide_eq_false (by omega)]; rfl
    · unfold tocsinlaw15_VecSets_l129
      simp only
      rw [show decide ((i : Int) < (v.length : Int)) = true from decide_eq_true (by omega)]
      simp only [Bool.true_and, beq_self_eq_true, cond_true]
      rw [inner_eq (v := v) (c := c) rfl rfl hv hc lv lc hi (hin rfl _ (List.getElem_mem hi))]
      simp only [Option.bind_some, Bool.not_true, cond_false, wrap_up (show i < 4294967296 by omega)]
  · refine loopO_done ?_
    unfold tocsinlaw15_VecSets_l129
    rw [show ((e : Int) == 0) = false by simpa using he]
    simp
theorem joinP_eq {a b : List PT} (h : a.length + b.length ≤ 2147483000) : tocsinlaw15_joined a b = some (a ++ b) := by
  unfold tocsinlaw15_joined
  rw [app_eq (by simp; omega)]
  simp only [Option.bind_some, List.nil_append]
  rw [app_eq (by omega)]; rfl
theorem VecSets_core {l r : List PT} {m : MT} (hl : ∀ p ∈ l, FinP p) (hr : ∀ p ∈ r, FinP p) (hm : m.f2.length < 2147480000) (ll : l.length ≤ 2147480000) : tocsinlaw15_VecSets l r m = some true := by
  unfold tocsinlaw15_VecSets
  simp only [Binary_sets (op := 13) (by omega) (by omega) _ _ m.f1 m.f2 hm, Binary_sets (op := 15) (by omega) (by omega) _ _ m.f1 m.f2 hm, Binary_sets (op := 14) (by omega) (by omega) _ _ m.f1 m.f2 hm, Option.bind_some, Vector_eq]
  generalize hM : (⟨3, m.f1, m.f2, []⟩ : MT) = M
  have hM2 : M.f2 = m.f2 := by rw [← hM]
  -- nothing comes of it
  by_cases hn : namesB M.f2 = false
  · have e : ∀ op, binS op M l r = ([], 40) := fun op => by unfold binS; rw [if_pos hn]
    simp [e, known_true]
  by_cases h1' : (vecE l).2 ≠ 0
  · have h1 := h1'
    have e : ∀ op, binS op M l r = ([], (vecE l).2) := fun op => by unfold binS; rw [if_neg hn, if_pos h1]
    have hb : ((vecE l).2 != 0) = true := by simpa using h1
    simp [e, known_true, hb]
  have h1 : (vecE l).2 = 0 := by simpa using h1'
  by_cases h2' : (vecE r).2 ≠ 0
  · have h2 := h2'
    have e : ∀ op, binS op M l r = ([], (vecE r).2) := fun op => by unfold binS; rw [if_neg hn, if_neg (by simpa using h1), if_pos h2]
    have hb : ((vecE r).2 != 0) = true := by simpa using h2
    simp [e, known_true, hb]
  have h2 : (vecE r).2 = 0 := by simpa using h2'
  obtain ⟨a1, a2, a3, a4⟩ := vecE_ok h1
  obtain ⟨b1, b2, b3, b4⟩ := vecE_ok h2
  have hvl : vecE l = (vsort l, 0) := vecE_of a1 a2 a3
  have e : ∀ op, binS op M l r = vecE (setsE op M (vsort l) (vsort r)) := fun op => by unfold binS; rw [if_neg hn, if_neg (by simpa using h1), if_neg (by simpa using h2)]
  have e2 : ∀ op, binS op M l l = vecE (setsE op M (vsort l) (vsort l)) := fun op => by unfold binS; rw [if_neg hn, if_neg (by simpa using h1), if_neg (by simpa using h1)]
  simp only [e, e2, hvl]
  have rL := vsort_rise a3
  have rR := vsort_rise b3
  have gL := vsort_right a2
  have gR := vsort_right b2
  have lL : (vsort l).length ≤ 1000 := by rw [vsort_len]; exact a1
  have lR : (vsort r).length ≤ 1000 := by rw [vsort_len]; exact b1
  have fL : ∀ p ∈ vsort l, FinP p := fun p hp => hl p ((vsort_perm l).mem_iff.1 hp)
  have fR : ∀ p ∈ vsort r, FinP p := fun p hp => hr p ((vsort_perm r).mem_iff.1 hp)
  generalize vsort l = L at *
  generalize vsort r = R at *
  have hand : setsE 13 M L R = L.filter fun x => inB M R x := by
    unfold setsE
    rw [show (R.filter fun x => ((13 : Int) == 14) && !(inB M L x)) = [] from List.filter_eq_nil_iff.2 fun x _ => by simp, List.append_nil]
    exact List.filter_congr fun x _ => by simp
  have hunl : setsE 15 M L R = L.filter fun x => !(inB M R x) := by
    unfold setsE
    rw [show (R.filter fun x => ((15 : Int) == 14) && !(inB M L x)) = [] from List.filter_eq_nil_iff.2 fun x _ => by simp, List.append_nil]
    exact List.filter_congr fun x _ => by simp
  have hor : setsE 14 M L R = L ++ R.filter fun x => !(inB M L x) := by
    unfold setsE
    rw [show (L.filter fun x => ((14 : Int) == 14) || (inB M R x == ((14 : Int) == 13))) = L from List.filter_eq_self.2 fun x _ => by simp]
    congr 1
  have hand2 : setsE 13 M L L = L := by
    unfold setsE
    rw [show (L.filter fun x => ((13 : Int) == 14) && !(inB M L x)) = [] from List.filter_eq_nil_iff.2 fun x _ => by simp, List.append_nil]
    exact List.filter_eq_self.2 fun x hx => by simp [inB_self hx]
  have hunl2 : setsE 15 M L L = [] := by
    unfold setsE
    rw [show (L.filter fun x => ((15 : Int) == 14) && !(inB M L x)) = [] from List.filter_eq_nil_iff.2 fun x _ => by simp, List.append_nil]
    exact List.filter_eq_nil_iff.2 fun x hx => by simp [inB_self hx]
  have hor2 : setsE 14 M L L = L := by
    unfold setsE
    rw [show (L.filter fun x => ((14 : Int) == 14) || (inB M L x == ((14 : Int) == 13))) = L from List.filter_eq_self.2 fun x _ => by simp]
    rw [show (L.filter fun x => ((14 : Int) == 14) && !(inB M L x)) = [] from List.filter_eq_nil_iff.2 fun x hx => by simp [inB_self hx], List.append_nil]
  have vF : ∀ p : PT → Bool, vecE (L.filter p) = (L.filter p, 0) := fun p => by
    rw [vecE_of (Nat.le_trans (List.length_filter_le p L) lL) (fun q hq => gL q (List.mem_filter.1 hq).1) ((rL.filter p).dist), vsort_of (rL.filter p)]
  have vL : vecE L = (L, 0) := by rw [vecE_of lL gL rL.dist, vsort_of rL]
  have vN : vecE ([] : List PT) = ([], 0) := by rw [vecE_of (by simp) (fun p hp => by cases hp) .nil, vsort_of .nil]
  rw [hand, hunl, hor, hand2, hunl2, hor2, vF, vF, vL, vN]
  -- what or has
  have hC : ∃ c e, vecE (L ++ R.filter fun x => !(inB M L x)) = (c, e) ∧ (e = 0 ∨ e = 7) ∧ (∀ p ∈ c, FinP p) ∧ c.length ≤ 2147483000 ∧ (e = 0 → ∀ p ∈ L, p ∈ c) := by
    have hd : DistP (L ++ R.filter fun x => !(inB M L x)) := by
      refine List.pairwise_append.2 ⟨rL.dist, rR.dist.filter _, fun x hx y hy heq => ?_⟩
      have h3 := (List.mem_filter.1 hy).2
      have : inB M L y = true := by
        unfold inB
        exact List.any_eq_true.2 ⟨x, hx, (strBeq _ _).2 (by rw [heq])⟩
      rw [this] at h3; cases h3
    have hg : ∀ p ∈ (L ++ R.filter fun x => !(inB M L x)), (rightE p.f0).1 = 0 := fun p hp => by
      rcases List.mem_append.1 hp with hp | hp
      · exact gL p hp
      · exact gR p (List.mem_filter.1 hp).1
    have hf : ∀ p ∈ (L ++ R.filter fun x => !(inB M L x)), FinP p := fun p hp => by
      rcases List.mem_append.1 hp with hp | hp
      · exact fL p hp
      · exact fR p (List.mem_filter.1 hp).1
    have hlen : (L ++ R.filter fun x => !(inB M L x)).length ≤ 2000 := by
      have := List.length_filter_le (fun x => !(inB M L x)) R
      rw [List.length_append]; omega
    by_cases h3 : (L ++ R.filter fun x => !(inB M L x)).length ≤ 1000
    · refine ⟨_, 0, vecE_of h3 hg hd, .inl rfl, fun p hp => hf p ((vsort_perm _).mem_iff.1 hp), by rw [vsort_len]; omega, fun _ p hp => (vsort_perm _).mem_iff.2 (List.mem_append_left _ hp)⟩
    · refine ⟨[], 7, ?_, .inr rfl, fun p hp => (by cases hp), by simp, fun h => (by cases h)⟩
      unfold vecE
      rw [if_pos (by omega)]
  obtain ⟨c, e7, hce, he, hcf, hcl, hcin⟩ := hC
  rw [hce]
  simp only
  have t1 : (((0 : Int) != 0) || (((0 : Int) != e7) && (e7 != 7))) = false := by rcases he with rfl | rfl <;> decide
  rw [t1]
  simp only [cond_false, bne_self_eq_false]
  -- put together
  have hjoin : tocsinlaw15_joined (L.filter fun x => inB M R x) (L.filter fun x => !(inB M R x)) = some ((L.filter fun x => inB M R x) ++ (L.filter fun x => !(inB M R x))) :=
    joinP_eq (Nat.le_trans (Nat.add_le_add (List.length_filter_le _ _) (List.length_filter_le _ _)) (by omega))
  have hp := part_perm (fun x => inB M R x) L
  have hboth : vecE ((L.filter fun x => inB M R x) ++ (L.filter fun x => !(inB M R x))) = (L, 0) := by
    have hd := rL.dist.perm hp.symm
    rw [vecE_of (by rw [hp.length_eq]; exact lL) (fun q hq => gL q (hp.mem_iff.1 hq)) hd]
    rw [rise_unique ((vsort_perm _).trans hp) (vsort_rise hd) rL]
  simp only [hjoin, Option.bind_some, Vector_eq, hboth, bne_self_eq_false, cond_false, Same_self fL (by omega), Bool.not_true, outer_eq fL hcf (by omega) hcl hcin, cond_true, known_true]
  rfl
theorem tocsinlaw15_VecSets_true {I : Imm} {c0 c1 c2 : List Value} {n0 n1 n2 : Nat} (a0 a1 : List PT) (a2 : MT) (h0 : (Kd.sl kS38).R I a0 c0) (h1 : (Kd.sl kS38).R I a1 c1) (h2 : kS24.R I a2 c2)
    (w0 : wSl wS38 a0 n0) (w1 : wSl wS38 a1 n1) (w2 : wS24 a2 n2) (hn : n0 + n1 + n2 ≤ 1048576) : tocsinlaw15_VecSets a0 a1 a2 = some true := by
  have fin : ∀ {l : List PT} {n : Nat}, wSl wS38 l n → n ≤ 1048576 → ∀ p ∈ l, FinP p := fun h hn p hp => by
    obtain ⟨a, ⟨q0, q1, h1, h2, x, h3, _⟩, h4⟩ := h.mem hp
    have := h2.len
    exact ⟨by omega, x, h3⟩
  obtain ⟨q0, q1, q2, q3, hq, _, _, w22, _⟩ := w2
  have := w22.len
  have := w0.len
  exact VecSets_core (fin w0 (by omega)) (fin w1 (by omega)) (by omega) (by omega)
end Go.Proofs.YtkjkkimnjpodiaaGreatDoor
