/- AggrGroups: groups part a vector. -/
import Derived.Test.YtkjkkimnjpodiaaGreatDoorPB3gu
import Derived.Test.YtkjkkimnjpodiaaGreatDoorGB35u
import Derived.KernelRfl
import Derived.Lib.LaidU8T
import Derived.Shelf.Unicode.ValidAny
set_option linter.unusedVariables false
set_option linter.unusedSimpArgs false
set_option maxRecDepth 100000
namespace Go.Proofs.YtkjkkimnjpodiaaGreatDoor
open Go.GB
noncomputable def labels_named_l33_c (a2 : Bool) (l11 : List Int) : Int → Option ((Int) ⊕ ((Unit) ⊕ (Bool))) := fun s23 =>
  bif (decide (s23 < (l11.length : Int))) then
  (Option.bind (ix l11 s23) fun (x36 : Int) =>
    bif (((!(labels_letter x36)) && (!(labels_digit x36))) && (!(a2 && (x36 == 58)))) then
    (some (Sum.inr (Sum.inr false)))
    else
    (some (Sum.inl (IntKind.wrap .i64 (s23 + 1)))))
  else
  (some (Sum.inr (Sum.inl ())))
theorem labels_named_l33_ev (a2 : Bool) (l11 : List Int) (s23 : Int) : OLe (labels_named_l33_c a2 l11 s23) (labels_named_l33 a2 l11 s23) := by
  unfold labels_named_l33_c labels_named_l33
  exact (OLe.cond (OLe.bind (OLe.refl _) (fun _ => (OLe.cond (OLe.refl _) (OLe.refl _)))) (OLe.refl _))
noncomputable def labels_named_c (a0 : ByteArray) (a1 : Int) (a2 : Bool) : Option Bool :=
  Option.bind (bif (a0.toList == (⟨#[]⟩ : ByteArray).toList) then
    (some true)
    else
    (bif (decide ((a0.size : Int) > a1)) then
      (some true)
      else
      (Option.bind (bx a0 0) fun (c8 : Int) =>
        some (labels_digit c8)))) fun (j1 : Bool) =>
  bif j1 then
  (some false)
  else
  (Option.bind (sb a0) fun (l11 : List Int) =>
    Option.bind (loopF 1000000 (labels_named_l33_c a2 l11) 0) fun (r21 : (Unit) ⊕ (Bool)) =>
    match r21 with
    | Sum.inl r29 => some true
    | Sum.inr v54 => some v54)
theorem labels_named_ev (a0 : ByteArray) (a1 : Int) (a2 : Bool) : OLe (labels_named_c a0 a1 a2) (labels_named a0 a1 a2) := by
  unfold labels_named_c labels_named
  exact (OLe.bind (OLe.cond (OLe.refl _) (OLe.cond (OLe.refl _) (OLe.bind (OLe.refl _) (fun _ => (OLe.refl _))))) (fun _ => (OLe.cond (OLe.refl _) (OLe.bind (OLe.refl _) (fun _ => (OLe.bind (OLe.loop (fun _ => labels_named_l33_ev _ _ _)) (fun j => by cases j with | inl a => exact (OLe.refl _) | inr b => exact (OLe.refl _))))))))
noncomputable def labels_Name_c (a0 : ByteArray) : Option Bool :=
  Option.bind (labels_named_c a0 64 false) fun (y1 : Bool) =>
  some y1
theorem labels_Name_ev (a0 : ByteArray) : OLe (labels_Name_c a0) (labels_Name a0) := by
  unfold labels_Name_c labels_Name
  exact (OLe.bind (labels_named_ev _ _ _) (fun _ => (OLe.refl _)))
noncomputable def utf8_ValidString_c (a0 : ByteArray) : Option Bool := utf8_ValidString a0
theorem utf8_ValidString_ev (a0 : ByteArray) : OLe (utf8_ValidString_c a0) (utf8_ValidString a0) := OLe.refl _
noncomputable def labels_value_c (a0 : ByteArray) : Option Int :=
  bif (a0.toList == (⟨#[]⟩ : ByteArray).toList) then
  (some 41)
  else
  (bif (decide ((a0.size : Int) > 256)) then
    (some 4)
    else
    (Option.bind (utf8_ValidString_c a0) fun (y3 : Bool) =>
      bif (!y3) then
      (some 12)
      else
      (some 0)))
theorem labels_value_ev (a0 : ByteArray) : OLe (labels_value_c a0) (labels_value a0) := by
  unfold labels_value_c labels_value
  exact (OLe.cond (OLe.refl _) (OLe.cond (OLe.refl _) (OLe.bind (utf8_ValidString_ev _) (fun _ => (OLe.cond (OLe.refl _) (OLe.refl _))))))
noncomputable def labels_Right_l18_c (a0 : List S76) : Int → Option ((Int) ⊕ ((Unit) ⊕ (Int × Int))) := fun s8 =>
  bif (decide (s8 < (a0.length : Int))) then
  (Option.bind (ix a0 s8) fun (x21 : S76) =>
    Option.bind (labels_Name_c x21.f0) fun (y30 : Bool) =>
    bif (!y30) then
    (some (Sum.inr (Sum.inr (40, s8))))
    else
    (Option.bind (labels_value_c x21.f1) fun (y33 : Int) =>
      bif (y33 != 0) then
      (some (Sum.inr (Sum.inr (y33, s8))))
      else
      (Option.bind (bif (decide (s8 > 0)) then
          (Option.bind (ix a0 (IntKind.wrap .i64 (s8 - 1))) fun (x42 : S76) =>
            some ((Op.bytesLess x21.f0.toList x42.f0.toList) || (x21.f0.toList == x42.f0.toList)))
          else
          (some false)) fun (j36 : Bool) =>
        bif j36 then
        (some (Sum.inr (Sum.inr (3, s8))))
        else
        (some (Sum.inl (IntKind.wrap .i64 (s8 + 1)))))))
  else
  (some (Sum.inr (Sum.inl ())))
theorem labels_Right_l18_ev (a0 : List S76) (s8 : Int) : OLe (labels_Right_l18_c a0 s8) (labels_Right_l18 a0 s8) := by
  unfold labels_Right_l18_c labels_Right_l18
  exact (OLe.cond (OLe.bind (OLe.refl _) (fun _ => (OLe.bind (labels_Name_ev _) (fun _ => (OLe.cond (OLe.refl _) (OLe.bind (labels_value_ev _) (fun _ => (OLe.cond (OLe.refl _) (OLe.bind (OLe.cond (OLe.bind (OLe.refl _) (fun _ => (OLe.refl _))) (OLe.refl _)) (fun _ => (OLe.cond (OLe.refl _) (OLe.refl _)))))))))))) (OLe.refl _))
noncomputable def labels_Right_c (a0 : List S76) : Option (Int × Int) :=
  bif (decide ((a0.length : Int) > 16)) then
  (some (8, 0))
  else
  (Option.bind (loopF 1000000 (labels_Right_l18_c a0) 0) fun (r6 : (Unit) ⊕ (Int × Int)) =>
    match r6 with
    | Sum.inl r14 => some (0, 0)
    | Sum.inr v51 => some v51)
theorem labels_Right_ev (a0 : List S76) : OLe (labels_Right_c a0) (labels_Right a0) := by
  unfold labels_Right_c labels_Right
  exact (OLe.cond (OLe.refl _) (OLe.bind (OLe.loop (fun _ => labels_Right_l18_ev _ _)) (fun j => by cases j with | inl a => exact (OLe.refl _) | inr b => exact (OLe.refl _))))
noncomputable def slices_Clone_c (a0 : List S76) : Option (List S76) :=
  Option.bind (app ([] : List S76) a0) fun (zs3 : List S76) =>
  some zs3
theorem slices_Clone_ev (a0 : List S76) : OLe (slices_Clone_c a0) (slices_Clone a0) := by
  unfold slices_Clone_c slices_Clone
  exact (OLe.bind (OLe.refl _) (fun _ => (OLe.refl _)))
noncomputable def slices_CompareFunc_l17_c (a0 : List S76) (a1 : List S76) (a2 : S76 → S76 → Option Int) : Int → Option ((Int) ⊕ ((Unit) ⊕ (Int))) := fun s7 =>
  bif (decide (s7 < (a0.length : Int))) then
  (Option.bind (ix a0 s7) fun (x20 : S76) =>
    bif (decide (s7 ≥ (a1.length : Int))) then
    (some (Sum.inr (Sum.inr 1)))
    else
    (Option.bind (ix a1 s7) fun (x30 : S76) =>
      Option.bind (a2 x20 x30) fun (y40 : Int) =>
      bif (y40 != 0) then
      (some (Sum.inr (Sum.inr y40)))
      else
      (some (Sum.inl (IntKind.wrap .i64 (s7 + 1))))))
  else
  (some (Sum.inr (Sum.inl ())))
theorem slices_CompareFunc_l17_ev (a0 : List S76) (a1 : List S76) {a2 a2' : S76 → S76 → Option Int} (ha2 : ∀ x0 x1, OLe (a2 x0 x1) (a2' x0 x1)) (s7 : Int) : OLe (slices_CompareFunc_l17_c a0 a1 a2 s7) (slices_CompareFunc_l17 a0 a1 a2' s7) := by
  unfold slices_CompareFunc_l17_c slices_CompareFunc_l17
  exact (OLe.cond (OLe.bind (OLe.refl _) (fun _ => (OLe.cond (OLe.refl _) (OLe.bind (OLe.refl _) (fun _ => (OLe.bind (ha2 _ _) (fun _ => (OLe.cond (OLe.refl _) (OLe.refl _))))))))) (OLe.refl _))
noncomputable def slices_CompareFunc_c (a0 : List S76) (a1 : List S76) (a2 : S76 → S76 → Option Int) : Option Int :=
  Option.bind (loopF 1000000 (slices_CompareFunc_l17_c a0 a1 a2) 0) fun (r5 : (Unit) ⊕ (Int)) =>
  match r5 with
  | Sum.inl r13 => bif (decide ((a0.length : Int) < (a1.length : Int))) then
    (some (-1))
    else
    (some 0)
  | Sum.inr v43 => some v43
theorem slices_CompareFunc_ev (a0 : List S76) (a1 : List S76) {a2 a2' : S76 → S76 → Option Int} (ha2 : ∀ x0 x1, OLe (a2 x0 x1) (a2' x0 x1)) : OLe (slices_CompareFunc_c a0 a1 a2) (slices_CompareFunc a0 a1 a2') := by
  unfold slices_CompareFunc_c slices_CompareFunc
  exact (OLe.bind (OLe.loop (fun _ => slices_CompareFunc_l17_ev _ _ ha2 _)) (fun j => by cases j with | inl a => exact (OLe.cond (OLe.refl _) (OLe.refl _)) | inr b => exact (OLe.refl _)))
noncomputable def labels_Compare_c (a0 : List S76) (a1 : List S76) : Option Int :=
  Option.bind (slices_CompareFunc_c a0 a1 (fun x0 x1 => some (labels_Compare_1 x0 x1))) fun (y1 : Int) =>
  some y1
theorem labels_Compare_ev (a0 : List S76) (a1 : List S76) : OLe (labels_Compare_c a0 a1) (labels_Compare a0 a1) := by
  unfold labels_Compare_c labels_Compare
  exact (OLe.bind (slices_CompareFunc_ev _ _ (fun _ _ => OLe.refl _)) (fun _ => (OLe.refl _)))
noncomputable def vec_Vector_1_c (a0 : S38) (a1 : S38) : Option Int :=
  Option.bind (labels_Compare_c a0.f0 a1.f0) fun (y3 : Int) =>
  some y3
theorem vec_Vector_1_ev (a0 : S38) (a1 : S38) : OLe (vec_Vector_1_c a0 a1) (vec_Vector_1 a0 a1) := by
  unfold vec_Vector_1_c vec_Vector_1
  exact (OLe.bind (labels_Compare_ev _ _) (fun _ => (OLe.refl _)))
noncomputable def vec_Vector_l18_c (a0 : List S38) : Int → Option ((Int) ⊕ ((Unit) ⊕ ((List S38) × Int))) := fun s8 =>
  bif (decide (s8 < (a0.length : Int))) then
  (Option.bind (ix a0 s8) fun (x21 : S38) =>
    Option.bind (labels_Right_c x21.f0) fun (y35 : Int × Int) =>
    bif (y35.1 != 0) then
    (some (Sum.inr (Sum.inr ([], 41))))
    else
    (some (Sum.inl (IntKind.wrap .i64 (s8 + 1)))))
  else
  (some (Sum.inr (Sum.inl ())))
theorem vec_Vector_l18_ev (a0 : List S38) (s8 : Int) : OLe (vec_Vector_l18_c a0 s8) (vec_Vector_l18 a0 s8) := by
  unfold vec_Vector_l18_c vec_Vector_l18
  exact (OLe.cond (OLe.bind (OLe.refl _) (fun _ => (OLe.bind (labels_Right_ev _) (fun _ => (OLe.cond (OLe.refl _) (OLe.refl _)))))) (OLe.refl _))
noncomputable def vec_Vector_l65_c (a0 : List S38) : ((List S38) × Int) → Option (((List S38) × Int) ⊕ ((List S38))) := fun s48 =>
  bif (decide (s48.2 < (a0.length : Int))) then
  (Option.bind (ix a0 s48.2) fun (x68 : S38) =>
    Option.bind (slices_Clone_c x68.f0) fun (y82 : (List S76)) =>
    Option.bind (app s48.1 [(⟨y82, x68.f1⟩ : S38)]) fun (zs99 : List S38) =>
    some (Sum.inl (zs99, (IntKind.wrap .i64 (s48.2 + 1)))))
  else
  (some (Sum.inr s48.1))
theorem vec_Vector_l65_ev (a0 : List S38) (s48 : (List S38) × Int) : OLe (vec_Vector_l65_c a0 s48) (vec_Vector_l65 a0 s48) := by
  unfold vec_Vector_l65_c vec_Vector_l65
  exact (OLe.cond (OLe.bind (OLe.refl _) (fun _ => (OLe.bind (slices_Clone_ev _) (fun _ => (OLe.bind (OLe.refl _) (fun _ => (OLe.refl _))))))) (OLe.refl _))
noncomputable def vec_Vector_l131_c (zs105 : List S38) : Int → Option ((Int) ⊕ ((Unit) ⊕ ((List S38) × Int))) := fun s121 =>
  bif (decide (s121 < (zs105.length : Int))) then
  (Option.bind (ix zs105 (IntKind.wrap .i64 (s121 - 1))) fun (x134 : S38) =>
    Option.bind (ix zs105 s121) fun (x148 : S38) =>
    Option.bind (labels_Compare_c x134.f0 x148.f0) fun (y162 : Int) =>
    bif (y162 == 0) then
    (some (Sum.inr (Sum.inr ([], 150))))
    else
    (some (Sum.inl (IntKind.wrap .i64 (s121 + 1)))))
  else
  (some (Sum.inr (Sum.inl ())))
theorem vec_Vector_l131_ev (zs105 : List S38) (s121 : Int) : OLe (vec_Vector_l131_c zs105 s121) (vec_Vector_l131 zs105 s121) := by
  unfold vec_Vector_l131_c vec_Vector_l131
  exact (OLe.cond (OLe.bind (OLe.refl _) (fun _ => (OLe.bind (OLe.refl _) (fun _ => (OLe.bind (labels_Compare_ev _ _) (fun _ => (OLe.cond (OLe.refl _) (OLe.refl _)))))))) (OLe.refl _))
noncomputable def vec_Vector_c (a0 : List S38) : Option ((List S38) × Int) :=
  bif (decide ((a0.length : Int) > 1000)) then
  (some ([], 7))
  else
  (Option.bind (loopF 1000000 (vec_Vector_l18_c a0) 0) fun (r6 : (Unit) ⊕ ((List S38) × Int)) =>
    match r6 with
    | Sum.inl r14 => Option.bind (loopF 1000000 (vec_Vector_l65_c a0) ([], 0)) fun (r46 : (List S38)) =>
      sortBindC vec_Vector_1_c r46 fun (zs105 : List S38) =>
      Option.bind (loopF 1000000 (vec_Vector_l131_c zs105) 1) fun (r119 : (Unit) ⊕ ((List S38) × Int)) =>
      match r119 with
      | Sum.inl r127 => some (zs105, 0)
      | Sum.inr v165 => some v165
    | Sum.inr v166 => some v166)
theorem vec_Vector_ev (a0 : List S38) : OLe (vec_Vector_c a0) (vec_Vector a0) := by
  unfold vec_Vector_c vec_Vector
  exact (OLe.cond (OLe.refl _) (OLe.bind (OLe.loop (fun _ => vec_Vector_l18_ev _ _)) (fun j => by cases j with | inl a => exact (OLe.bind (OLe.loop (fun _ => vec_Vector_l65_ev _ _)) (fun _ => (OLe.sort (fun _ _ => vec_Vector_1_ev _ _) (fun _ => (OLe.bind (OLe.loop (fun _ => vec_Vector_l131_ev _ _)) (fun j => by cases j with | inl a => exact (OLe.refl _) | inr b => exact (OLe.refl _))))))) | inr b => exact (OLe.refl _))))
noncomputable def aggr_wrong_l17_c (a0 : List ByteArray) : Int → Option ((Int) ⊕ ((Unit) ⊕ (Int))) := fun s7 =>
  bif (decide (s7 < (a0.length : Int))) then
  (Option.bind (ix a0 s7) fun (x20 : ByteArray) =>
    Option.bind (labels_Name_c x20) fun (y28 : Bool) =>
    bif (!y28) then
    (some (Sum.inr (Sum.inr 40)))
    else
    (some (Sum.inl (IntKind.wrap .i64 (s7 + 1)))))
  else
  (some (Sum.inr (Sum.inl ())))
theorem aggr_wrong_l17_ev (a0 : List ByteArray) (s7 : Int) : OLe (aggr_wrong_l17_c a0 s7) (aggr_wrong_l17 a0 s7) := by
  unfold aggr_wrong_l17_c aggr_wrong_l17
  exact (OLe.cond (OLe.bind (OLe.refl _) (fun _ => (OLe.bind (labels_Name_ev _) (fun _ => (OLe.cond (OLe.refl _) (OLe.refl _)))))) (OLe.refl _))
noncomputable def aggr_wrong_c (a0 : List ByteArray) : Option Int :=
  Option.bind (loopF 1000000 (aggr_wrong_l17_c a0) 0) fun (r5 : (Unit) ⊕ (Int)) =>
  match r5 with
  | Sum.inl r13 => some 0
  | Sum.inr v31 => some v31
theorem aggr_wrong_ev (a0 : List ByteArray) : OLe (aggr_wrong_c a0) (aggr_wrong a0) := by
  unfold aggr_wrong_c aggr_wrong
  exact (OLe.bind (OLe.loop (fun _ => aggr_wrong_l17_ev _ _)) (fun j => by cases j with | inl a => exact (OLe.refl _) | inr b => exact (OLe.refl _)))
noncomputable def slices_Clone_f76_c (a0 : List ByteArray) : Option (List ByteArray) :=
  Option.bind (app ([] : List ByteArray) a0) fun (zs3 : List ByteArray) =>
  some zs3
theorem slices_Clone_f76_ev (a0 : List ByteArray) : OLe (slices_Clone_f76_c a0) (slices_Clone_f76 a0) := by
  unfold slices_Clone_f76_c slices_Clone_f76
  exact (OLe.bind (OLe.refl _) (fun _ => (OLe.refl _)))
noncomputable def labels_right_c (a0 : List S76) : Option Int :=
  Option.bind (labels_Right_c a0) fun (y1 : Int × Int) =>
  some y1.1
theorem labels_right_ev (a0 : List S76) : OLe (labels_right_c a0) (labels_right a0) := by
  unfold labels_right_c labels_right
  exact (OLe.bind (labels_Right_ev _) (fun _ => (OLe.refl _)))
noncomputable def slices_Index_l17_c (a0 : List ByteArray) (a1 : ByteArray) : Int → Option ((Int) ⊕ ((Unit) ⊕ (Int))) := fun s7 =>
  bif (decide (s7 < (a0.length : Int))) then
  (Option.bind (ix a0 s7) fun (x20 : ByteArray) =>
    bif (a1.toList == x20.toList) then
    (some (Sum.inr (Sum.inr s7)))
    else
    (some (Sum.inl (IntKind.wrap .i64 (s7 + 1)))))
  else
  (some (Sum.inr (Sum.inl ())))
theorem slices_Index_l17_ev (a0 : List ByteArray) (a1 : ByteArray) (s7 : Int) : OLe (slices_Index_l17_c a0 a1 s7) (slices_Index_l17 a0 a1 s7) := by
  unfold slices_Index_l17_c slices_Index_l17
  exact (OLe.cond (OLe.bind (OLe.refl _) (fun _ => (OLe.cond (OLe.refl _) (OLe.refl _)))) (OLe.refl _))
noncomputable def slices_Index_c (a0 : List ByteArray) (a1 : ByteArray) : Option Int :=
  Option.bind (loopF 1000000 (slices_Index_l17_c a0 a1) 0) fun (r5 : (Unit) ⊕ (Int)) =>
  match r5 with
  | Sum.inl r13 => some (-1)
  | Sum.inr v29 => some v29
theorem slices_Index_ev (a0 : List ByteArray) (a1 : ByteArray) : OLe (slices_Index_c a0 a1) (slices_Index a0 a1) := by
  unfold slices_Index_c slices_Index
  exact (OLe.bind (OLe.loop (fun _ => slices_Index_l17_ev _ _ _)) (fun j => by cases j with | inl a => exact (OLe.refl _) | inr b => exact (OLe.refl _)))
noncomputable def slices_Contains_c (a0 : List ByteArray) (a1 : ByteArray) : Option Bool :=
  Option.bind (slices_Index_c a0 a1) fun (y1 : Int) =>
  some (decide (y1 ≥ 0))
theorem slices_Contains_ev (a0 : List ByteArray) (a1 : ByteArray) : OLe (slices_Contains_c a0 a1) (slices_Contains a0 a1) := by
  unfold slices_Contains_c slices_Contains
  exact (OLe.bind (slices_Index_ev _ _) (fun _ => (OLe.refl _)))
noncomputable def labels_pick_l28_c (a0 : List S76) (a1 : Bool) (a2 : List ByteArray) : ((List S76) × Int) → Option (((List S76) × Int) ⊕ ((List S76))) := fun s11 =>
  bif (decide (s11.2 < (a0.length : Int))) then
  (Option.bind (ix a0 s11.2) fun (x31 : S76) =>
    Option.bind (slices_Contains_c a2 x31.f0) fun (y40 : Bool) =>
    Option.bind (bif (y40 == a1) then
      (Option.bind (app s11.1 [x31]) fun (zs56 : List S76) =>
        some zs56)
      else
      (some s11.1)) fun (j42 : (List S76)) =>
    some (Sum.inl (j42, (IntKind.wrap .i64 (s11.2 + 1)))))
  else
  (some (Sum.inr s11.1))
theorem labels_pick_l28_ev (a0 : List S76) (a1 : Bool) (a2 : List ByteArray) (s11 : (List S76) × Int) : OLe (labels_pick_l28_c a0 a1 a2 s11) (labels_pick_l28 a0 a1 a2 s11) := by
  unfold labels_pick_l28_c labels_pick_l28
  exact (OLe.cond (OLe.bind (OLe.refl _) (fun _ => (OLe.bind (slices_Contains_ev _ _) (fun _ => (OLe.bind (OLe.cond (OLe.bind (OLe.refl _) (fun _ => (OLe.refl _))) (OLe.refl _)) (fun _ => (OLe.refl _))))))) (OLe.refl _))
noncomputable def labels_pick_c (a0 : List S76) (a1 : Bool) (a2 : List ByteArray) : Option (List S76) :=
  Option.bind (loopF 1000000 (labels_pick_l28_c a0 a1 a2) ([], 0)) fun (r9 : (List S76)) =>
  some r9
theorem labels_pick_ev (a0 : List S76) (a1 : Bool) (a2 : List ByteArray) : OLe (labels_pick_c a0 a1 a2) (labels_pick a0 a1 a2) := by
  unfold labels_pick_c labels_pick
  exact (OLe.bind (OLe.loop (fun _ => labels_pick_l28_ev _ _ _ _)) (fun _ => (OLe.refl _)))
noncomputable def labels_Without_c (a0 : List S76) (a1 : List ByteArray) : Option ((List S76) × Int) :=
  Option.bind (labels_right_c a0) fun (y1 : Int) =>
  bif (y1 != 0) then
  (some ([], y1))
  else
  (Option.bind (labels_pick_c a0 false a1) fun (y4 : (List S76)) =>
    some (y4, 0))
theorem labels_Without_ev (a0 : List S76) (a1 : List ByteArray) : OLe (labels_Without_c a0 a1) (labels_Without a0 a1) := by
  unfold labels_Without_c labels_Without
  exact (OLe.bind (labels_right_ev _) (fun _ => (OLe.cond (OLe.refl _) (OLe.bind (labels_pick_ev _ _ _) (fun _ => (OLe.refl _))))))
noncomputable def labels_Keep_c (a0 : List S76) (a1 : List ByteArray) : Option ((List S76) × Int) :=
  Option.bind (labels_right_c a0) fun (y1 : Int) =>
  bif (y1 != 0) then
  (some ([], y1))
  else
  (Option.bind (labels_pick_c a0 true a1) fun (y4 : (List S76)) =>
    some (y4, 0))
theorem labels_Keep_ev (a0 : List S76) (a1 : List ByteArray) : OLe (labels_Keep_c a0 a1) (labels_Keep a0 a1) := by
  unfold labels_Keep_c labels_Keep
  exact (OLe.bind (labels_right_ev _) (fun _ => (OLe.cond (OLe.refl _) (OLe.bind (labels_pick_ev _ _ _) (fun _ => (OLe.refl _))))))
noncomputable def aggr_group_c (a0 : List S76) (a1 : List ByteArray) (a2 : Bool) : Option (List S76) :=
  bif a2 then
  (Option.bind (slices_Clone_f76_c a1) fun (y2 : (List ByteArray)) =>
    Option.bind (app y2 [(⟨#[95, 95, 110, 97, 109, 101, 95, 95]⟩ : ByteArray)]) fun (zs15 : List ByteArray) =>
    Option.bind (labels_Without_c a0 zs15) fun (y25 : (List S76) × Int) =>
    some y25.1)
  else
  (Option.bind (labels_Keep_c a0 a1) fun (y34 : (List S76) × Int) =>
    some y34.1)
theorem aggr_group_ev (a0 : List S76) (a1 : List ByteArray) (a2 : Bool) : OLe (aggr_group_c a0 a1 a2) (aggr_group a0 a1 a2) := by
  unfold aggr_group_c aggr_group
  exact (OLe.cond (OLe.bind (slices_Clone_f76_ev _) (fun _ => (OLe.bind (OLe.refl _) (fun _ => (OLe.bind (labels_Without_ev _ _) (fun _ => (OLe.refl _))))))) (OLe.bind (labels_Keep_ev _ _) (fun _ => (OLe.refl _))))
noncomputable def vint_joined_c (a0 : List Int) (a1 : List Int) : Option (List Int) :=
  Option.bind (mkrow (0 : Int) 0 (IntKind.wrap .i64 ((a0.length : Int) + (a1.length : Int)))) fun (xs1 : List Int) =>
  Option.bind (app xs1 a0) fun (zs6 : List Int) =>
  Option.bind (app zs6 a1) fun (zs12 : List Int) =>
  some zs12
theorem vint_joined_ev (a0 : List Int) (a1 : List Int) : OLe (vint_joined_c a0 a1) (vint_joined a0 a1) := by
  unfold vint_joined_c vint_joined
  exact (OLe.bind (OLe.refl _) (fun _ => (OLe.bind (OLe.refl _) (fun _ => (OLe.bind (OLe.refl _) (fun _ => (OLe.refl _)))))))
noncomputable def vint_PutU_l28_c : (Int × (List Int)) → Option ((Int × (List Int)) ⊕ (Int × (List Int))) := fun s11 =>
  bif (decide (s11.1 ≥ 128)) then
  (Option.bind (app s11.2 [(bitOr .u8 (IntKind.wrap .u8 s11.1) 128)]) fun (zs35 : List Int) =>
    some (Sum.inl ((shr .u64 s11.1 7), zs35)))
  else
  (some (Sum.inr (s11.1, s11.2)))
theorem vint_PutU_l28_ev  (s11 : Int × (List Int)) : OLe (vint_PutU_l28_c  s11) (vint_PutU_l28  s11) := by
  unfold vint_PutU_l28_c vint_PutU_l28
  exact (OLe.cond (OLe.bind (OLe.refl _) (fun _ => (OLe.refl _))) (OLe.refl _))
noncomputable def vint_PutU_c (a0 : List Int) (a1 : Int) : Option (List Int) :=
  Option.bind (loopF 1000000 vint_PutU_l28_c (a1, [])) fun (r9 : Int × (List Int)) =>
  Option.bind (app r9.2 [(IntKind.wrap .u8 r9.1)]) fun (zs45 : List Int) =>
  Option.bind (vint_joined_c a0 zs45) fun (y55 : (List Int)) =>
  some y55
theorem vint_PutU_ev (a0 : List Int) (a1 : Int) : OLe (vint_PutU_c a0 a1) (vint_PutU a0 a1) := by
  unfold vint_PutU_c vint_PutU
  exact (OLe.bind (OLe.loop (fun _ => vint_PutU_l28_ev  _)) (fun _ => (OLe.bind (OLe.refl _) (fun _ => (OLe.bind (vint_joined_ev _ _) (fun _ => (OLe.refl _)))))))
noncomputable def vint_PutText_c (a0 : List Int) (a1 : ByteArray) : Option (List Int) :=
  Option.bind (vint_PutU_c a0 (IntKind.wrap .u64 (a1.size : Int))) fun (y1 : (List Int)) =>
  Option.bind (sb a1) fun (l10 : List Int) =>
  Option.bind (vint_joined_c y1 l10) fun (y21 : (List Int)) =>
  some y21
theorem vint_PutText_ev (a0 : List Int) (a1 : ByteArray) : OLe (vint_PutText_c a0 a1) (vint_PutText a0 a1) := by
  unfold vint_PutText_c vint_PutText
  exact (OLe.bind (vint_PutU_ev _ _) (fun _ => (OLe.bind (OLe.refl _) (fun _ => (OLe.bind (vint_joined_ev _ _) (fun _ => (OLe.refl _)))))))
noncomputable def labels_Put_l40_c (a1 : List S76) : ((List Int) × Int) → Option (((List Int) × Int) ⊕ ((List Int))) := fun s23 =>
  bif (decide (s23.2 < (a1.length : Int))) then
  (Option.bind (ix a1 s23.2) fun (x43 : S76) =>
    Option.bind (vint_PutText_c s23.1 x43.f0) fun (y56 : (List Int)) =>
    Option.bind (vint_PutText_c y56 x43.f1) fun (y69 : (List Int)) =>
    some (Sum.inl (y69, (IntKind.wrap .i64 (s23.2 + 1)))))
  else
  (some (Sum.inr s23.1))
theorem labels_Put_l40_ev (a1 : List S76) (s23 : (List Int) × Int) : OLe (labels_Put_l40_c a1 s23) (labels_Put_l40 a1 s23) := by
  unfold labels_Put_l40_c labels_Put_l40
  exact (OLe.cond (OLe.bind (OLe.refl _) (fun _ => (OLe.bind (vint_PutText_ev _ _) (fun _ => (OLe.bind (vint_PutText_ev _ _) (fun _ => (OLe.refl _))))))) (OLe.refl _))
noncomputable def labels_Put_c (a0 : List Int) (a1 : List S76) : Option ((List Int) × Int) :=
  Option.bind (labels_right_c a1) fun (y1 : Int) =>
  bif (y1 != 0) then
  (some ([], y1))
  else
  (Option.bind (vint_PutU_c a0 (IntKind.wrap .u64 (a1.length : Int))) fun (y4 : (List Int)) =>
    Option.bind (loopF 1000000 (labels_Put_l40_c a1) (y4, 0)) fun (r21 : (List Int)) =>
    some (r21, 0))
theorem labels_Put_ev (a0 : List Int) (a1 : List S76) : OLe (labels_Put_c a0 a1) (labels_Put a0 a1) := by
  unfold labels_Put_c labels_Put
  exact (OLe.bind (labels_right_ev _) (fun _ => (OLe.cond (OLe.refl _) (OLe.bind (vint_PutU_ev _ _) (fun _ => (OLe.bind (OLe.loop (fun _ => labels_Put_l40_ev _ _)) (fun _ => (OLe.refl _))))))))
noncomputable def aggr_Groups_1_c (a0 : Int) (a1 : Int) (a2 : List (List S76)) : Option Int :=
  Option.bind (ix a2 a0) fun (x1 : List S76) =>
  Option.bind (ix a2 a1) fun (x12 : List S76) =>
  Option.bind (labels_Compare_c x1 x12) fun (y23 : Int) =>
  some y23
theorem aggr_Groups_1_ev (a0 : Int) (a1 : Int) (a2 : List (List S76)) : OLe (aggr_Groups_1_c a0 a1 a2) (aggr_Groups_1 a0 a1 a2) := by
  unfold aggr_Groups_1_c aggr_Groups_1
  exact (OLe.bind (OLe.refl _) (fun _ => (OLe.bind (OLe.refl _) (fun _ => (OLe.bind (labels_Compare_ev _ _) (fun _ => (OLe.refl _)))))))
noncomputable def aggr_Groups_l61_c (a1 : List ByteArray) (a2 : Bool) (y1 : (List S38) × Int) : ((List (List S76)) × (List (ByteArray × Int)) × (List (List S38)) × Int) → Option (((List (List S76)) × (List (ByteArray × Int)) × (List (List S38)) × Int) ⊕ ((List (List S38)) × (List (List S76)))) := fun s34 =>
  bif (decide (s34.2.2.2 < (y1.1.length : Int))) then
  (Option.bind (ix y1.1 s34.2.2.2) fun (x64 : S38) =>
    Option.bind (aggr_group_c x64.f0 a1 a2) fun (y79 : (List S76)) =>
    Option.bind (labels_Put_c [] y79) fun (y92 : (List Int) × Int) =>
    Option.bind (bif (!((mget Ky.str s34.2.1 (ofBytes y92.1)).isSome)) then
      (Option.bind (app s34.1 [y79]) fun (zs123 : List (List S76)) =>
        Option.bind (app s34.2.2.1 [([] : List S38)]) fun (zs133 : List (List S38)) =>
        some ((mput Ky.str s34.2.1 (ofBytes y92.1) (s34.2.2.1.length : Int)), zs133, (s34.2.2.1.length : Int), zs123))
      else
      (some (s34.2.1, s34.2.2.1, ((mget Ky.str s34.2.1 (ofBytes y92.1)).getD 0), s34.1))) fun (j101 : (List (ByteArray × Int)) × (List (List S38)) × Int × (List (List S76))) =>
    Option.bind (ix j101.2.1 j101.2.2.1) fun (x140 : List S38) =>
    Option.bind (app x140 [x64]) fun (zs160 : List S38) =>
    some (Sum.inl (j101.2.2.2, j101.1, (lset j101.2.1 j101.2.2.1 zs160), (IntKind.wrap .i64 (s34.2.2.2 + 1)))))
  else
  (some (Sum.inr (s34.2.2.1, s34.1)))
theorem aggr_Groups_l61_ev (a1 : List ByteArray) (a2 : Bool) (y1 : (List S38) × Int) (s34 : (List (List S76)) × (List (ByteArray × Int)) × (List (List S38)) × Int) : OLe (aggr_Groups_l61_c a1 a2 y1 s34) (aggr_Groups_l61 a1 a2 y1 s34) := by
  unfold aggr_Groups_l61_c aggr_Groups_l61
  exact (OLe.cond (OLe.bind (OLe.refl _) (fun _ => (OLe.bind (aggr_group_ev _ _ _) (fun _ => (OLe.bind (labels_Put_ev _ _) (fun _ => (OLe.bind (OLe.cond (OLe.bind (OLe.refl _) (fun _ => (OLe.bind (OLe.refl _) (fun _ => (OLe.refl _))))) (OLe.refl _)) (fun _ => (OLe.bind (OLe.refl _) (fun _ => (OLe.bind (OLe.refl _) (fun _ => (OLe.refl _))))))))))))) (OLe.refl _))
noncomputable def aggr_Groups_l198_c (xs169 : List Int) : ((List Int) × Int) → Option (((List Int) × Int) ⊕ ((List Int))) := fun s183 =>
  bif (decide (s183.2 < (xs169.length : Int))) then
  (Option.bind (ix s183.1 s183.2) fun (x201 : Int) =>
    some (Sum.inl ((lset s183.1 s183.2 s183.2), (IntKind.wrap .i64 (s183.2 + 1)))))
  else
  (some (Sum.inr s183.1))
theorem aggr_Groups_l198_ev (xs169 : List Int) (s183 : (List Int) × Int) : OLe (aggr_Groups_l198_c xs169 s183) (aggr_Groups_l198 xs169 s183) := by
  unfold aggr_Groups_l198_c aggr_Groups_l198
  exact (OLe.cond (OLe.bind (OLe.refl _) (fun _ => (OLe.refl _))) (OLe.refl _))
noncomputable def aggr_Groups_l270_c (r32 : (List (List S38)) × (List (List S76))) (zs218 : List Int) : ((List (List S38)) × Int) → Option (((List (List S38)) × Int) ⊕ ((List (List S38)))) := fun s253 =>
  bif (decide (s253.2 < (zs218.length : Int))) then
  (Option.bind (ix zs218 s253.2) fun (x273 : Int) =>
    Option.bind (ix r32.1 x273) fun (x282 : List S38) =>
    Option.bind (app s253.1 [x282]) fun (zs297 : List (List S38)) =>
    some (Sum.inl (zs297, (IntKind.wrap .i64 (s253.2 + 1)))))
  else
  (some (Sum.inr s253.1))
theorem aggr_Groups_l270_ev (r32 : (List (List S38)) × (List (List S76))) (zs218 : List Int) (s253 : (List (List S38)) × Int) : OLe (aggr_Groups_l270_c r32 zs218 s253) (aggr_Groups_l270 r32 zs218 s253) := by
  unfold aggr_Groups_l270_c aggr_Groups_l270
  exact (OLe.cond (OLe.bind (OLe.refl _) (fun _ => (OLe.bind (OLe.refl _) (fun _ => (OLe.bind (OLe.refl _) (fun _ => (OLe.refl _))))))) (OLe.refl _))
noncomputable def aggr_Groups_c (a0 : List S38) (a1 : List ByteArray) (a2 : Bool) : Option ((List (List S38)) × Int) :=
  Option.bind (vec_Vector_c a0) fun (y1 : (List S38) × Int) =>
  bif (y1.2 != 0) then
  (some ([], y1.2))
  else
  (Option.bind (aggr_wrong_c a1) fun (y11 : Int) =>
    bif (y11 != 0) then
    (some ([], y11))
    else
    (Option.bind (loopF 1000000 (aggr_Groups_l61_c a1 a2 y1) ([], ([] : List (ByteArray × Int)), [], 0)) fun (r32 : (List (List S38)) × (List (List S76))) =>
      Option.bind (mkrow (0 : Int) (r32.1.length : Int) (r32.1.length : Int)) fun (xs169 : List Int) =>
      Option.bind (loopF 1000000 (aggr_Groups_l198_c xs169) (xs169, 0)) fun (r181 : (List Int)) =>
      sortBindC (fun x0 x1 => aggr_Groups_1_c x0 x1 r32.2) r181 fun (zs218 : List Int) =>
      Option.bind (loopF 1000000 (aggr_Groups_l270_c r32 zs218) ([], 0)) fun (r251 : (List (List S38))) =>
      some (r251, 0)))
theorem aggr_Groups_ev (a0 : List S38) (a1 : List ByteArray) (a2 : Bool) : OLe (aggr_Groups_c a0 a1 a2) (aggr_Groups a0 a1 a2) := by
  unfold aggr_Groups_c aggr_Groups
  exact (OLe.bind (vec_Vector_ev _) (fun _ => (OLe.cond (OLe.refl _) (OLe.bind (aggr_wrong_ev _) (fun _ => (OLe.cond (OLe.refl _) (OLe.bind (OLe.loop (fun _ => aggr_Groups_l61_ev _ _ _ _)) (fun _ => (OLe.bind (OLe.refl _) (fun _ => (OLe.bind (OLe.loop (fun _ => aggr_Groups_l198_ev _ _)) (fun _ => (OLe.sort (fun _ _ => aggr_Groups_1_ev _ _ _) (fun _ => (OLe.bind (OLe.loop (fun _ => aggr_Groups_l270_ev _ _ _)) (fun _ => (OLe.refl _)))))))))))))))))
noncomputable def aggr_values_sum_l37_c (l12 : List Fl) : (Fl × Int) → Option ((Fl × Int) ⊕ (Fl)) := fun s24 =>
  bif (decide (s24.2 < (l12.length : Int))) then
  (Option.bind (ix l12 s24.2) fun (x40 : Fl) =>
    some (Sum.inl ((farith .add s24.1 x40), (IntKind.wrap .i64 (s24.2 + 1)))))
  else
  (some (Sum.inr s24.1))
theorem aggr_values_sum_l37_ev (l12 : List Fl) (s24 : Fl × Int) : OLe (aggr_values_sum_l37_c l12 s24) (aggr_values_sum_l37 l12 s24) := by
  unfold aggr_values_sum_l37_c aggr_values_sum_l37
  exact (OLe.cond (OLe.bind (OLe.refl _) (fun _ => (OLe.refl _))) (OLe.refl _))
noncomputable def aggr_values_sum_c (a0 : List Fl) (a1 : Fl) : Option Fl :=
  Option.bind (ix a0 0) fun (x1 : Fl) =>
  Option.bind (lx a0 1 (a0.length : Int)) fun (l12 : List Fl) =>
  Option.bind (loopF 1000000 (aggr_values_sum_l37_c l12) (x1, 0)) fun (r22 : Fl) =>
  some r22
theorem aggr_values_sum_ev (a0 : List Fl) (a1 : Fl) : OLe (aggr_values_sum_c a0 a1) (aggr_values_sum a0 a1) := by
  unfold aggr_values_sum_c aggr_values_sum
  exact (OLe.bind (OLe.refl _) (fun _ => (OLe.bind (OLe.refl _) (fun _ => (OLe.bind (OLe.loop (fun _ => aggr_values_sum_l37_ev _ _)) (fun _ => (OLe.refl _)))))))
noncomputable def aggr_values_avg_c (a0 : List Fl) (a1 : Fl) : Option Fl :=
  Option.bind (aggr_values_sum_c a0 a1) fun (y1 : Fl) =>
  some (farith .quo y1 (some (FloatKind.nearest .f64 (a0.length : Int)) : Fl))
theorem aggr_values_avg_ev (a0 : List Fl) (a1 : Fl) : OLe (aggr_values_avg_c a0 a1) (aggr_values_avg a0 a1) := by
  unfold aggr_values_avg_c aggr_values_avg
  exact (OLe.bind (aggr_values_sum_ev _ _) (fun _ => (OLe.refl _)))
noncomputable def aggr_values_min_l32_c (a0 : List Fl) : (Fl × Int) → Option ((Fl × Int) ⊕ (Fl)) := fun s19 =>
  bif (decide (s19.2 < (a0.length : Int))) then
  (Option.bind (ix a0 s19.2) fun (x35 : Fl) =>
    Option.bind (bif (fcmp .lss x35 s19.1) then
      (some true)
      else
      (some (math_IsNaN s19.1))) fun (j45 : Bool) =>
    Option.bind (bif j45 then
      (some x35)
      else
      (some s19.1)) fun (j51 : Fl) =>
    some (Sum.inl (j51, (IntKind.wrap .i64 (s19.2 + 1)))))
  else
  (some (Sum.inr s19.1))
theorem aggr_values_min_l32_ev (a0 : List Fl) (s19 : Fl × Int) : OLe (aggr_values_min_l32_c a0 s19) (aggr_values_min_l32 a0 s19) := by
  unfold aggr_values_min_l32_c aggr_values_min_l32
  exact (OLe.cond (OLe.bind (OLe.refl _) (fun _ => (OLe.bind (OLe.cond (OLe.refl _) (OLe.refl _)) (fun _ => (OLe.bind (OLe.cond (OLe.refl _) (OLe.refl _)) (fun _ => (OLe.refl _))))))) (OLe.refl _))
noncomputable def aggr_values_min_c (a0 : List Fl) (a1 : Fl) : Option Fl :=
  Option.bind (ix a0 0) fun (x1 : Fl) =>
  Option.bind (loopF 1000000 (aggr_values_min_l32_c a0) (x1, 0)) fun (r17 : Fl) =>
  some r17
theorem aggr_values_min_ev (a0 : List Fl) (a1 : Fl) : OLe (aggr_values_min_c a0 a1) (aggr_values_min a0 a1) := by
  unfold aggr_values_min_c aggr_values_min
  exact (OLe.bind (OLe.refl _) (fun _ => (OLe.bind (OLe.loop (fun _ => aggr_values_min_l32_ev _ _)) (fun _ => (OLe.refl _)))))
noncomputable def aggr_values_max_l32_c (a0 : List Fl) : (Fl × Int) → Option ((Fl × Int) ⊕ (Fl)) := fun s19 =>
  bif (decide (s19.2 < (a0.length : Int))) then
  (Option.bind (ix a0 s19.2) fun (x35 : Fl) =>
    Option.bind (bif (fcmp .gtr x35 s19.1) then
      (some true)
      else
      (some (math_IsNaN s19.1))) fun (j45 : Bool) =>
    Option.bind (bif j45 then
      (some x35)
      else
      (some s19.1)) fun (j51 : Fl) =>
    some (Sum.inl (j51, (IntKind.wrap .i64 (s19.2 + 1)))))
  else
  (some (Sum.inr s19.1))
theorem aggr_values_max_l32_ev (a0 : List Fl) (s19 : Fl × Int) : OLe (aggr_values_max_l32_c a0 s19) (aggr_values_max_l32 a0 s19) := by
  unfold aggr_values_max_l32_c aggr_values_max_l32
  exact (OLe.cond (OLe.bind (OLe.refl _) (fun _ => (OLe.bind (OLe.cond (OLe.refl _) (OLe.refl _)) (fun _ => (OLe.bind (OLe.cond (OLe.refl _) (OLe.refl _)) (fun _ => (OLe.refl _))))))) (OLe.refl _))
noncomputable def aggr_values_max_c (a0 : List Fl) (a1 : Fl) : Option Fl :=
  Option.bind (ix a0 0) fun (x1 : Fl) =>
  Option.bind (loopF 1000000 (aggr_values_max_l32_c a0) (x1, 0)) fun (r17 : Fl) =>
  some r17
theorem aggr_values_max_ev (a0 : List Fl) (a1 : Fl) : OLe (aggr_values_max_c a0 a1) (aggr_values_max a0 a1) := by
  unfold aggr_values_max_c aggr_values_max
  exact (OLe.bind (OLe.refl _) (fun _ => (OLe.bind (OLe.loop (fun _ => aggr_values_max_l32_ev _ _)) (fun _ => (OLe.refl _)))))
noncomputable def aggr_values_stdvar_l35_c (a0 : List Fl) (y1 : Fl) : ((List Fl) × Int) → Option (((List Fl) × Int) ⊕ ((List Fl))) := fun s18 =>
  bif (decide (s18.2 < (a0.length : Int))) then
  (Option.bind (ix a0 s18.2) fun (x38 : Fl) =>
    Option.bind (app s18.1 [(farith .mul (farith .sub x38 y1) (farith .sub x38 y1))]) fun (zs56 : List Fl) =>
    some (Sum.inl (zs56, (IntKind.wrap .i64 (s18.2 + 1)))))
  else
  (some (Sum.inr s18.1))
theorem aggr_values_stdvar_l35_ev (a0 : List Fl) (y1 : Fl) (s18 : (List Fl) × Int) : OLe (aggr_values_stdvar_l35_c a0 y1 s18) (aggr_values_stdvar_l35 a0 y1 s18) := by
  unfold aggr_values_stdvar_l35_c aggr_values_stdvar_l35
  exact (OLe.cond (OLe.bind (OLe.refl _) (fun _ => (OLe.bind (OLe.refl _) (fun _ => (OLe.refl _))))) (OLe.refl _))
noncomputable def aggr_values_stdvar_c (a0 : List Fl) (a1 : Fl) : Option Fl :=
  Option.bind (aggr_values_avg_c a0 a1) fun (y1 : Fl) =>
  Option.bind (loopF 1000000 (aggr_values_stdvar_l35_c a0 y1) ([], 0)) fun (r16 : (List Fl)) =>
  Option.bind (aggr_values_sum_c r16 a1) fun (y66 : Fl) =>
  some (farith .quo y66 (some (FloatKind.nearest .f64 (a0.length : Int)) : Fl))
theorem aggr_values_stdvar_ev (a0 : List Fl) (a1 : Fl) : OLe (aggr_values_stdvar_c a0 a1) (aggr_values_stdvar a0 a1) := by
  unfold aggr_values_stdvar_c aggr_values_stdvar
  exact (OLe.bind (aggr_values_avg_ev _ _) (fun _ => (OLe.bind (OLe.loop (fun _ => aggr_values_stdvar_l35_ev _ _ _)) (fun _ => (OLe.bind (aggr_values_sum_ev _ _) (fun _ => (OLe.refl _)))))))
noncomputable def aggr_values_stddev_c (a0 : List Fl) (a1 : Fl) : Option Fl :=
  Option.bind (aggr_values_stdvar_c a0 a1) fun (y1 : Fl) =>
  some (math_Sqrt y1)
theorem aggr_values_stddev_ev (a0 : List Fl) (a1 : Fl) : OLe (aggr_values_stddev_c a0 a1) (aggr_values_stddev a0 a1) := by
  unfold aggr_values_stddev_c aggr_values_stddev
  exact (OLe.bind (aggr_values_stdvar_ev _ _) (fun _ => (OLe.refl _)))
noncomputable def math_Inf_c (a0 : Int) : Option Fl :=
  Option.bind (bif (decide (a0 ≥ 0)) then
    (some 9218868437227405312)
    else
    (some 18442240474082181120)) fun (j1 : Int) =>
  some (some (j1 : Int).toNat : Fl)
theorem math_Inf_ev (a0 : Int) : OLe (math_Inf_c a0) (math_Inf a0) := by
  unfold math_Inf_c math_Inf
  exact (OLe.bind (OLe.cond (OLe.refl _) (OLe.refl _)) (fun _ => (OLe.refl _)))
noncomputable def slices_Clone_f143_c (a0 : List Fl) : Option (List Fl) :=
  Option.bind (app ([] : List Fl) a0) fun (zs3 : List Fl) =>
  some zs3
theorem slices_Clone_f143_ev (a0 : List Fl) : OLe (slices_Clone_f143_c a0) (slices_Clone_f143 a0) := by
  unfold slices_Clone_f143_c slices_Clone_f143
  exact (OLe.bind (OLe.refl _) (fun _ => (OLe.refl _)))
noncomputable def aggr_ahead_c (a0 : Fl) (a1 : Fl) : Option Int :=
  bif ((cmp_Compare a0 a1) != 0) then
  (some (cmp_Compare a0 a1))
  else
  (Option.bind (fbits a1) fun (q2 : Int) =>
    Option.bind (fbits a0) fun (q4 : Int) =>
    some (cmp_Compare_f176 (shr .u64 q2 63) (shr .u64 q4 63)))
theorem aggr_ahead_ev (a0 : Fl) (a1 : Fl) : OLe (aggr_ahead_c a0 a1) (aggr_ahead a0 a1) := by
  unfold aggr_ahead_c aggr_ahead
  exact (OLe.cond (OLe.refl _) (OLe.bind (OLe.refl _) (fun _ => (OLe.bind (OLe.refl _) (fun _ => (OLe.refl _))))))
noncomputable def slices_insertionSortCmpFunc_l52_c (a1 : Int) : ((List Fl) × Int) → Option (((List Fl) × Int) ⊕ ((List Fl))) := fun s37 =>
  Option.bind (bif (decide (s37.2 > a1)) then
    (Option.bind (ix s37.1 s37.2) fun (x60 : Fl) =>
      Option.bind (ix s37.1 (IntKind.wrap .i64 (s37.2 - 1))) fun (x71 : Fl) =>
      Option.bind (aggr_ahead_c x60 x71) fun (y82 : Int) =>
      some (decide (y82 < 0)))
    else
    (some false)) fun (j54 : Bool) =>
  bif j54 then
  (Option.bind (ix s37.1 (IntKind.wrap .i64 (s37.2 - 1))) fun (x85 : Fl) =>
    Option.bind (ix s37.1 s37.2) fun (x96 : Fl) =>
    Option.bind (ix s37.1 s37.2) fun (x107 : Fl) =>
    Option.bind (ix (lset s37.1 s37.2 x85) (IntKind.wrap .i64 (s37.2 - 1))) fun (x121 : Fl) =>
    some (Sum.inl ((lset (lset s37.1 s37.2 x85) (IntKind.wrap .i64 (s37.2 - 1)) x96), (IntKind.wrap .i64 (s37.2 - 1)))))
  else
  (some (Sum.inr s37.1))
theorem slices_insertionSortCmpFunc_l52_ev (a1 : Int) (s37 : (List Fl) × Int) : OLe (slices_insertionSortCmpFunc_l52_c a1 s37) (slices_insertionSortCmpFunc_l52 a1 s37) := by
  unfold slices_insertionSortCmpFunc_l52_c slices_insertionSortCmpFunc_l52
  exact (OLe.bind (OLe.cond (OLe.bind (OLe.refl _) (fun _ => (OLe.bind (OLe.refl _) (fun _ => (OLe.bind (aggr_ahead_ev _ _) (fun _ => (OLe.refl _))))))) (OLe.refl _)) (fun _ => (OLe.cond (OLe.bind (OLe.refl _) (fun _ => (OLe.bind (OLe.refl _) (fun _ => (OLe.bind (OLe.refl _) (fun _ => (OLe.bind (OLe.refl _) (fun _ => (OLe.refl _))))))))) (OLe.refl _))))
noncomputable def slices_insertionSortCmpFunc_l25_c (a1 : Int) (a2 : Int) : ((List Fl) × Int) → Option (((List Fl) × Int) ⊕ ((List Fl))) := fun s10 =>
  bif (decide (s10.2 < a2)) then
  (Option.bind (loopF 1000000 (slices_insertionSortCmpFunc_l52_c a1) (s10.1, s10.2)) fun (r35 : (List Fl)) =>
    some (Sum.inl (r35, (IntKind.wrap .i64 (s10.2 + 1)))))
  else
  (some (Sum.inr s10.1))
theorem slices_insertionSortCmpFunc_l25_ev (a1 : Int) (a2 : Int) (s10 : (List Fl) × Int) : OLe (slices_insertionSortCmpFunc_l25_c a1 a2 s10) (slices_insertionSortCmpFunc_l25 a1 a2 s10) := by
  unfold slices_insertionSortCmpFunc_l25_c slices_insertionSortCmpFunc_l25
  exact (OLe.cond (OLe.bind (OLe.loop (fun _ => slices_insertionSortCmpFunc_l52_ev _ _)) (fun _ => (OLe.refl _))) (OLe.refl _))
noncomputable def slices_insertionSortCmpFunc_c (a0 : List Fl) (a1 : Int) (a2 : Int) : Option (List Fl) :=
  Option.bind (loopF 1000000 (slices_insertionSortCmpFunc_l25_c a1 a2) (a0, (IntKind.wrap .i64 (a1 + 1)))) fun (r8 : (List Fl)) =>
  some r8
theorem slices_insertionSortCmpFunc_ev (a0 : List Fl) (a1 : Int) (a2 : Int) : OLe (slices_insertionSortCmpFunc_c a0 a1 a2) (slices_insertionSortCmpFunc a0 a1 a2) := by
  unfold slices_insertionSortCmpFunc_c slices_insertionSortCmpFunc
  exact (OLe.bind (OLe.loop (fun _ => slices_insertionSortCmpFunc_l25_ev _ _ _)) (fun _ => (OLe.refl _)))
noncomputable def slices_symMergeCmpFunc_c (a0 : List Fl) (a1 : Int) (a2 : Int) (a3 : Int) : Option (List Fl) := none
theorem slices_symMergeCmpFunc_ev (a0 : List Fl) (a1 : Int) (a2 : Int) (a3 : Int) : OLe (slices_symMergeCmpFunc_c a0 a1 a2 a3) (slices_symMergeCmpFunc a0 a1 a2 a3) := by
  intro r h; cases h
noncomputable def slices_stableCmpFunc_l25_c (a1 : Int) : ((List Fl) × Int × Int) → Option (((List Fl) × Int × Int) ⊕ ((List Fl) × Int)) := fun s10 =>
  bif (decide (s10.2.2 ≤ a1)) then
  (Option.bind (slices_insertionSortCmpFunc_c s10.1 s10.2.1 s10.2.2) fun (y28 : (List Fl)) =>
    some (Sum.inl (y28, s10.2.2, (IntKind.wrap .i64 (s10.2.2 + 20)))))
  else
  (some (Sum.inr (s10.1, s10.2.1)))
theorem slices_stableCmpFunc_l25_ev (a1 : Int) (s10 : (List Fl) × Int × Int) : OLe (slices_stableCmpFunc_l25_c a1 s10) (slices_stableCmpFunc_l25 a1 s10) := by
  unfold slices_stableCmpFunc_l25_c slices_stableCmpFunc_l25
  exact (OLe.cond (OLe.bind (slices_insertionSortCmpFunc_ev _ _ _) (fun _ => (OLe.refl _))) (OLe.refl _))
noncomputable def slices_stableCmpFunc_l95_c (a1 : Int) (s53 : (List Fl) × Int) : ((List Fl) × Int × Int) → Option (((List Fl) × Int × Int) ⊕ ((List Fl) × Int)) := fun s80 =>
  bif (decide (s80.2.2 ≤ a1)) then
  (Option.bind (slices_symMergeCmpFunc_c s80.1 s80.2.1 (IntKind.wrap .i64 (s80.2.1 + s53.2)) s80.2.2) fun (y98 : (List Fl)) =>
    some (Sum.inl (y98, s80.2.2, (IntKind.wrap .i64 (s80.2.2 + (IntKind.wrap .i64 (2 * s53.2)))))))
  else
  (some (Sum.inr (s80.1, s80.2.1)))
theorem slices_stableCmpFunc_l95_ev (a1 : Int) (s53 : (List Fl) × Int) (s80 : (List Fl) × Int × Int) : OLe (slices_stableCmpFunc_l95_c a1 s53 s80) (slices_stableCmpFunc_l95 a1 s53 s80) := by
  unfold slices_stableCmpFunc_l95_c slices_stableCmpFunc_l95
  exact (OLe.cond (OLe.bind (slices_symMergeCmpFunc_ev _ _ _ _) (fun _ => (OLe.refl _))) (OLe.refl _))
noncomputable def slices_stableCmpFunc_l68_c (a1 : Int) : ((List Fl) × Int) → Option (((List Fl) × Int) ⊕ ((List Fl))) := fun s53 =>
  bif (decide (s53.2 < a1)) then
  (Option.bind (loopF 1000000 (slices_stableCmpFunc_l95_c a1 s53) (s53.1, 0, (IntKind.wrap .i64 (2 * s53.2)))) fun (r78 : (List Fl) × Int) =>
    Option.bind (bif (decide ((IntKind.wrap .i64 (r78.2 + s53.2)) < a1)) then
      (Option.bind (slices_symMergeCmpFunc_c r78.1 r78.2 (IntKind.wrap .i64 (r78.2 + s53.2)) a1) fun (y115 : (List Fl)) =>
        some y115)
      else
      (some r78.1)) fun (j106 : (List Fl)) =>
    some (Sum.inl (j106, (IntKind.wrap .i64 (s53.2 * 2)))))
  else
  (some (Sum.inr s53.1))
theorem slices_stableCmpFunc_l68_ev (a1 : Int) (s53 : (List Fl) × Int) : OLe (slices_stableCmpFunc_l68_c a1 s53) (slices_stableCmpFunc_l68 a1 s53) := by
  unfold slices_stableCmpFunc_l68_c slices_stableCmpFunc_l68
  exact (OLe.cond (OLe.bind (OLe.loop (fun _ => slices_stableCmpFunc_l95_ev _ _ _)) (fun _ => (OLe.bind (OLe.cond (OLe.bind (slices_symMergeCmpFunc_ev _ _ _ _) (fun _ => (OLe.refl _))) (OLe.refl _)) (fun _ => (OLe.refl _))))) (OLe.refl _))
noncomputable def slices_stableCmpFunc_c (a0 : List Fl) (a1 : Int) : Option (List Fl) :=
  Option.bind (loopF 1000000 (slices_stableCmpFunc_l25_c a1) (a0, 0, 20)) fun (r8 : (List Fl) × Int) =>
  Option.bind (slices_insertionSortCmpFunc_c r8.1 r8.2 a1) fun (y36 : (List Fl)) =>
  Option.bind (loopF 1000000 (slices_stableCmpFunc_l68_c a1) (y36, 20)) fun (r51 : (List Fl)) =>
  some r51
theorem slices_stableCmpFunc_ev (a0 : List Fl) (a1 : Int) : OLe (slices_stableCmpFunc_c a0 a1) (slices_stableCmpFunc a0 a1) := by
  unfold slices_stableCmpFunc_c slices_stableCmpFunc
  exact (OLe.bind (OLe.loop (fun _ => slices_stableCmpFunc_l25_ev _ _)) (fun _ => (OLe.bind (slices_insertionSortCmpFunc_ev _ _ _) (fun _ => (OLe.bind (OLe.loop (fun _ => slices_stableCmpFunc_l68_ev _ _)) (fun _ => (OLe.refl _)))))))
noncomputable def slices_SortStableFunc_c (a0 : List Fl) : Option (List Fl) :=
  Option.bind (slices_stableCmpFunc_c a0 (a0.length : Int)) fun (y1 : (List Fl)) =>
  some y1
theorem slices_SortStableFunc_ev (a0 : List Fl) : OLe (slices_SortStableFunc_c a0) (slices_SortStableFunc a0) := by
  unfold slices_SortStableFunc_c slices_SortStableFunc
  exact (OLe.bind (slices_stableCmpFunc_ev _ _) (fun _ => (OLe.refl _)))
noncomputable def aggr_values_quantile_c (a0 : List Fl) (a1 : Fl) : Option Fl :=
  bif (math_IsNaN a1) then
  (some a1)
  else
  (bif (fcmp .lss a1 (some 0 : Fl)) then
    (Option.bind (math_Inf_c (-1)) fun (y3 : Fl) =>
      some y3)
    else
    (bif (fcmp .gtr a1 (some 4607182418800017408 : Fl)) then
      (Option.bind (math_Inf_c 1) fun (y11 : Fl) =>
        some y11)
      else
      (Option.bind (slices_Clone_f143_c a0) fun (y18 : (List Fl)) =>
        Option.bind (slices_SortStableFunc_c y18) fun (y27 : (List Fl)) =>
        Option.bind (ftoi .i64 (farith .mul a1 (some (FloatKind.nearest .f64 (IntKind.wrap .i64 ((y27.length : Int) - 1))) : Fl))) fun (q37 : Int) =>
        Option.bind (ix y27 q37) fun (x41 : Fl) =>
        Option.bind (ix y27 (if (IntKind.wrap .i64 ((y27.length : Int) - 1)) < (IntKind.wrap .i64 (q37 + 1)) then (IntKind.wrap .i64 ((y27.length : Int) - 1)) else (IntKind.wrap .i64 (q37 + 1)))) fun (x56 : Fl) =>
        some (farith .add (farith .mul x41 (farith .sub (some 4607182418800017408 : Fl) (farith .sub (farith .mul a1 (some (FloatKind.nearest .f64 (IntKind.wrap .i64 ((y27.length : Int) - 1))) : Fl)) (some (FloatKind.nearest .f64 q37) : Fl)))) (farith .mul x56 (farith .sub (farith .mul a1 (some (FloatKind.nearest .f64 (IntKind.wrap .i64 ((y27.length : Int) - 1))) : Fl)) (some (FloatKind.nearest .f64 q37) : Fl)))))))
theorem aggr_values_quantile_ev (a0 : List Fl) (a1 : Fl) : OLe (aggr_values_quantile_c a0 a1) (aggr_values_quantile a0 a1) := by
  unfold aggr_values_quantile_c aggr_values_quantile
  exact (OLe.cond (OLe.refl _) (OLe.cond (OLe.bind (math_Inf_ev _) (fun _ => (OLe.refl _))) (OLe.cond (OLe.bind (math_Inf_ev _) (fun _ => (OLe.refl _))) (OLe.bind (slices_Clone_f143_ev _) (fun _ => (OLe.bind (slices_SortStableFunc_ev _) (fun _ => (OLe.bind (OLe.refl _) (fun _ => (OLe.bind (OLe.refl _) (fun _ => (OLe.bind (OLe.refl _) (fun _ => (OLe.refl _))))))))))))))
noncomputable def tabf_48_c : Nat → (List Fl) → Fl → Option Fl
  | 0, _, _ => none
  | 1, x0, x1 => aggr_values_sum_c x0 x1
  | 2, x0, x1 => aggr_values_avg_c x0 x1
  | 3, x0, x1 => aggr_values_min_c x0 x1
  | 4, x0, x1 => aggr_values_max_c x0 x1
  | 5, x0, x1 => (fun x0 x1 => some (aggr_values_count x0 x1)) x0 x1
  | 6, x0, x1 => (fun x0 x1 => some (aggr_values_group x0 x1)) x0 x1
  | 7, x0, x1 => aggr_values_stdvar_c x0 x1
  | 8, x0, x1 => aggr_values_stddev_c x0 x1
  | _ + 9, x0, x1 => aggr_values_quantile_c x0 x1
theorem tabf_48_ev : ∀ (k : Nat) (x0 : List Fl) (x1 : Fl), OLe (tabf_48_c k x0 x1) (tabf_48 k x0 x1)
  | 0, x0, x1 => fun _ h => by cases h
  | 1, x0, x1 => aggr_values_sum_ev x0 x1
  | 2, x0, x1 => aggr_values_avg_ev x0 x1
  | 3, x0, x1 => aggr_values_min_ev x0 x1
  | 4, x0, x1 => aggr_values_max_ev x0 x1
  | 5, x0, x1 => OLe.refl _
  | 6, x0, x1 => OLe.refl _
  | 7, x0, x1 => aggr_values_stdvar_ev x0 x1
  | 8, x0, x1 => aggr_values_stddev_ev x0 x1
  | _ + 9, x0, x1 => aggr_values_quantile_ev x0 x1
noncomputable def aggr_Number_l96_c (x51 : List S38) : ((List Fl) × Int) → Option (((List Fl) × Int) ⊕ ((List Fl))) := fun s79 =>
  bif (decide (s79.2 < (x51.length : Int))) then
  (Option.bind (ix x51 s79.2) fun (x99 : S38) =>
    Option.bind (app s79.1 [x99.f1]) fun (zs117 : List Fl) =>
    some (Sum.inl (zs117, (IntKind.wrap .i64 (s79.2 + 1)))))
  else
  (some (Sum.inr s79.1))
theorem aggr_Number_l96_ev (x51 : List S38) (s79 : (List Fl) × Int) : OLe (aggr_Number_l96_c x51 s79) (aggr_Number_l96 x51 s79) := by
  unfold aggr_Number_l96_c aggr_Number_l96
  exact (OLe.cond (OLe.bind (OLe.refl _) (fun _ => (OLe.bind (OLe.refl _) (fun _ => (OLe.refl _))))) (OLe.refl _))
noncomputable def aggr_Number_l48_c (a0 : ByteArray) (a2 : List ByteArray) (a3 : Bool) (a4 : Fl) (y11 : (List (List S38)) × Int) : ((List S38) × Int) → Option (((List S38) × Int) ⊕ ((List S38))) := fun s31 =>
  bif (decide (s31.2 < (y11.1.length : Int))) then
  (Option.bind (ix y11.1 s31.2) fun (x51 : List S38) =>
    bif ((aggr_fold a0) == 0) then
    (none)
    else
    (Option.bind (loopF 1000000 (aggr_Number_l96_c x51) ([], 0)) fun (r77 : (List Fl)) =>
      Option.bind (ix x51 0) fun (x123 : S38) =>
      Option.bind (aggr_group_c x123.f0 a2 a3) fun (y136 : (List S76)) =>
      Option.bind (tabf_48_c (aggr_fold a0) r77 a4) fun (y152 : Fl) =>
      Option.bind (app s31.1 [(⟨y136, (aggr_told y152)⟩ : S38)]) fun (zs171 : List S38) =>
      some (Sum.inl (zs171, (IntKind.wrap .i64 (s31.2 + 1))))))
  else
  (some (Sum.inr s31.1))
theorem aggr_Number_l48_ev (a0 : ByteArray) (a2 : List ByteArray) (a3 : Bool) (a4 : Fl) (y11 : (List (List S38)) × Int) (s31 : (List S38) × Int) : OLe (aggr_Number_l48_c a0 a2 a3 a4 y11 s31) (aggr_Number_l48 a0 a2 a3 a4 y11 s31) := by
  unfold aggr_Number_l48_c aggr_Number_l48
  exact (OLe.cond (OLe.bind (OLe.refl _) (fun _ => (OLe.cond (OLe.refl _) (OLe.bind (OLe.loop (fun _ => aggr_Number_l96_ev _ _)) (fun _ => (OLe.bind (OLe.refl _) (fun _ => (OLe.bind (aggr_group_ev _ _ _) (fun _ => (OLe.bind (tabf_48_ev _ _ _) (fun _ => (OLe.bind (OLe.refl _) (fun _ => (OLe.refl _)))))))))))))) (OLe.refl _))
noncomputable def aggr_Number_c (a0 : ByteArray) (a1 : List S38) (a2 : List ByteArray) (a3 : Bool) (a4 : Fl) : Option ((List S38) × Int) :=
  Option.bind (slices_Contains_c aggr_Words a0) fun (y8 : Bool) =>
  bif (!y8) then
  (some ([], 60))
  else
  (Option.bind (aggr_Groups_c a1 a2 a3) fun (y11 : (List (List S38)) × Int) =>
    bif (y11.2 != 0) then
    (some ([], y11.2))
    else
    (Option.bind (loopF 1000000 (aggr_Number_l48_c a0 a2 a3 a4 y11) ([], 0)) fun (r29 : (List S38)) =>
      Option.bind (vec_Vector_c r29) fun (y181 : (List S38) × Int) =>
      some (y181.1, y181.2)))
theorem aggr_Number_ev (a0 : ByteArray) (a1 : List S38) (a2 : List ByteArray) (a3 : Bool) (a4 : Fl) : OLe (aggr_Number_c a0 a1 a2 a3 a4) (aggr_Number a0 a1 a2 a3 a4) := by
  unfold aggr_Number_c aggr_Number
  exact (OLe.bind (slices_Contains_ev _ _) (fun _ => (OLe.cond (OLe.refl _) (OLe.bind (aggr_Groups_ev _ _ _) (fun _ => (OLe.cond (OLe.refl _) (OLe.bind (OLe.loop (fun _ => aggr_Number_l48_ev _ _ _ _ _ _)) (fun _ => (OLe.bind (vec_Vector_ev _) (fun _ => (OLe.refl _)))))))))))
noncomputable def aggr_Fold_c (a0 : ByteArray) (a1 : List Fl) (a2 : Fl) : Option (Fl × Int) :=
  bif ((aggr_fold a0) == 0) then
  (some ((some 0 : Fl), 60))
  else
  (bif ((a1.length : Int) == 0) then
    (some ((some 0 : Fl), 5))
    else
    (Option.bind (tabf_48_c (aggr_fold a0) a1 a2) fun (y4 : Fl) =>
      some ((aggr_told y4), 0)))
theorem aggr_Fold_ev (a0 : ByteArray) (a1 : List Fl) (a2 : Fl) : OLe (aggr_Fold_c a0 a1 a2) (aggr_Fold a0 a1 a2) := by
  unfold aggr_Fold_c aggr_Fold
  exact (OLe.cond (OLe.refl _) (OLe.cond (OLe.refl _) (OLe.bind (tabf_48_ev _ _ _) (fun _ => (OLe.refl _)))))
noncomputable def tocsinlaw16_awake_c : Option Bool :=
  Option.bind (aggr_Number_c (⟨#[115, 117, 109]⟩ : ByteArray) [(⟨[(⟨(⟨#[97]⟩ : ByteArray), (⟨#[49]⟩ : ByteArray)⟩ : S76), (⟨(⟨#[98]⟩ : ByteArray), (⟨#[120]⟩ : ByteArray)⟩ : S76)], (some 4611686018427387904 : Fl)⟩ : S38), (⟨[(⟨(⟨#[97]⟩ : ByteArray), (⟨#[49]⟩ : ByteArray)⟩ : S76), (⟨(⟨#[98]⟩ : ByteArray), (⟨#[121]⟩ : ByteArray)⟩ : S76)], (some 4616189618054758400 : Fl)⟩ : S38)] [(⟨#[97]⟩ : ByteArray)] false (some 0 : Fl)) fun (y27 : (List S38) × Int) =>
  Option.bind (aggr_Fold_c (⟨#[97, 118, 103]⟩ : ByteArray) [(some 4611686018427387904 : Fl), (some 4616189618054758400 : Fl)] (some 0 : Fl)) fun (y44 : Fl × Int) =>
  Option.bind (bif (y27.2 == 0) then
    (bif ((y27.1.length : Int) == 1) then
      (Option.bind (ix y27.1 0) fun (x58 : S38) =>
        bif (fcmp .eql x58.f1 (some 4618441417868443648 : Fl)) then
        (Option.bind (ix y27.1 0) fun (x73 : S38) =>
          bif ((x73.f0.length : Int) == 1) then
          (bif (y44.2 == 0) then
            (some (fcmp .eql y44.1 (some 4613937818241073152 : Fl)))
            else
            (some false))
          else
          (some false))
        else
        (some false))
      else
      (some false))
    else
    (some false)) fun (j51 : Bool) =>
  some j51
theorem tocsinlaw16_awake_ev  : OLe (tocsinlaw16_awake_c ) (tocsinlaw16_awake ) := by
  unfold tocsinlaw16_awake_c tocsinlaw16_awake
  exact (OLe.bind (aggr_Number_ev _ _ _ _ _) (fun _ => (OLe.bind (aggr_Fold_ev _ _ _) (fun _ => (OLe.bind (OLe.cond (OLe.cond (OLe.bind (OLe.refl _) (fun _ => (OLe.cond (OLe.bind (OLe.refl _) (fun _ => (OLe.cond (OLe.cond (OLe.refl _) (OLe.refl _)) (OLe.refl _)))) (OLe.refl _)))) (OLe.refl _)) (OLe.refl _)) (fun _ => (OLe.refl _)))))))
end Go.Proofs.YtkjkkimnjpodiaaGreatDoor
/- What must come of fixed calls comes of them: run out by the kernel. -/
set_option maxRecDepth 100000
namespace Go.Proofs.YtkjkkimnjpodiaaGreatDoor
theorem awake_true : tocsinlaw16_awake = some true := tocsinlaw16_awake_ev _ (by kernel_rfl)
end Go.Proofs.YtkjkkimnjpodiaaGreatDoor
/- AggrGroup: the group of a label set is the document's. -/
set_option linter.unusedVariables false
set_option linter.unusedSimpArgs false
set_option maxRecDepth 100000
namespace Go.Proofs.YtkjkkimnjpodiaaGreatDoor
open Go.GB Go.Lib
noncomputable def namesB (l : List ByteArray) : Bool := l.all fun s => namedB s 64 false
theorem wrong_eq (l : List ByteArray) (hl : l.length < 2147483648) : aggr_wrong l = some (bif namesB l then 0 else 40) := by
  unfold aggr_wrong
  rw [up_any (n := l.length) (fun j => (l[j]?).any fun s => !(namedB s 64 false)) (40 : Int) (fun j hj => ?_) ?_, any_range]
  · have : (l.any fun s => !(namedB s 64 false)) = !namesB l := by unfold namesB; rw [List.not_all_eq_any_not]
    rw [this]
    cases namesB l <;> rfl
  · unfold aggr_wrong_l17
    rw [show decide ((l.length : Int) < (l.length : Int)) = false from decide_eq_false (by omega)]; rfl
  · unfold aggr_wrong_l17
    rw [show decide ((j : Int) < (l.length : Int)) = true from decide_eq_true (by omega)]
    simp only [cond_true, ix_nat, List.getElem?_eq_getElem hj, Option.bind_some, wrap_up (show j < 4294967296 by omega), Name_eq, Option.any_some]
    cases namedB l[j] 64 false <;> rfl
theorem Named_eq (l : List ByteArray) (hl : l.length < 2147483648) : tocsinref16_Named l = some (namesB l) := by
  unfold tocsinref16_Named
  rw [up_any (n := l.length) (fun j => (l[j]?).any fun s => !(namedB s 64 false)) false (fun j hj => ?_) ?_, any_range]
  · have : (l.any fun s => !(namedB s 64 false)) = !namesB l := by unfold namesB; rw [List.not_all_eq_any_not]
    rw [this]
    cases namesB l <;> rfl
  · unfold tocsinref16_Named_l17
    rw [show decide ((l.length : Int) < (l.length : Int)) = false from decide_eq_false (by omega)]; rfl
  · unfold tocsinref16_Named_l17
    rw [show decide ((j : Int) < (l.length : Int)) = true from decide_eq_true (by omega)]
    simp only [cond_true, ix_nat, List.getElem?_eq_getElem hj, Option.bind_some, wrap_up (show j < 4294967296 by omega), refName_eq, Option.any_some]
    cases namedB l[j] 64 false <;> rfl
def nameS : ByteArray := ⟨#[95, 95, 110, 97, 109, 101, 95, 95]⟩
noncomputable def groupE (l : List LB) (names : List ByteArray) (without : Bool) : List LB := bif without then l.filter fun x => (hasB (names ++ [nameS]) x.f0 == false) else l.filter fun x => (hasB names x.f0 == true)
theorem group_eq {l : List LB} (h : (rightE l).1 = 0) (names : List ByteArray) (w : Bool) (hn : names.length < 2147483000) : aggr_group l names w = some (groupE l names w) := by
  have hl := (right_parts h).1
  unfold aggr_group groupE
  cases w with
  | true =>
    simp only [cond_true]
    unfold slices_Clone_f76
    rw [app_eq (by simp; omega)]
    simp only [Option.bind_some, List.nil_append]
    rw [app_eq (by simp; omega)]
    simp only [Option.bind_some]
    rw [Without_eq l _ (by omega) (by simp; omega), keepE_right h]
    rfl
  | false =>
    simp only [cond_false]
    rw [Keep_eq l _ (by omega) (by omega), keepE_right h]
    rfl
theorem refGroup_eq {l : List LB} (h : (rightE l).1 = 0) (names : List ByteArray) (w : Bool) (hn : names.length < 2147483000) : tocsinref16_group l names w = some (groupE l names w) := by
  have hl := (right_parts h).1
  unfold tocsinref16_group groupE
  cases w with
  | true =>
    simp only [cond_true]
    rw [app_eq (by simp; omega)]
    simp only [Option.bind_some, List.nil_append]
    rw [app_eq (by simp; omega)]
    simp only [Option.bind_some]
    rw [refPick_eq l _ _ (by omega) (by simp; omega)]
    rfl
  | false =>
    simp only [cond_false]
    rw [refPick_eq l _ _ (by omega) (by omega)]
    rfl
noncomputable def GroupE (l : List LB) (names : List ByteArray) (w : Bool) : List LB × Int := bif (rightE l).1 != 0 then ([], (rightE l).1) else bif namesB names then (groupE l names w, 0) else ([], 40)
theorem Group_eq (l : List LB) (names : List ByteArray) (w : Bool) (hn : names.length < 2147483000) : aggr_Group l names w = some (GroupE l names w) := by
  unfold aggr_Group GroupE
  simp only [Right_eq, Option.bind_some]
  by_cases h : (rightE l).1 = 0
  · rw [show ((rightE l).1 != 0) = false by simpa using h]
    simp only [cond_false, wrong_eq names (by omega), Option.bind_some]
    cases namesB names with
    | true => simp only [cond_true]; rw [group_eq h names w hn]; rfl
    | false => rfl
  · rw [show ((rightE l).1 != 0) = true by simpa using h]; rfl
end Go.Proofs.YtkjkkimnjpodiaaGreatDoor
/- Plain laws: Vector: points, rising, each label set once. -/
set_option linter.unusedVariables false
set_option linter.unusedSimpArgs false
set_option maxRecDepth 100000
namespace Go.Proofs.YtkjkkimnjpodiaaGreatDoor
open Go.GB Go.Lib
abbrev PT := S38
def cmpP (x y : PT) : Int := cmpL x.f0 y.f0
theorem cmpP_self (x : PT) : cmpP x x = 0 := cmpL_self _
theorem cmpP_swap (x y : PT) : cmpP y x = - cmpP x y := cmpL_swap _ _
theorem cmpP_range (x y : PT) : cmpP x y = -1 ∨ cmpP x y = 0 ∨ cmpP x y = 1 := cmpL_range _ _
theorem cmpP_zero {x y : PT} (h : cmpP x y = 0) : x.f0 = y.f0 := cmpL_zero h
theorem cmpP_neg {x y : PT} : cmpP x y < 0 ↔ cmpP x y = -1 := ⟨fun h => by rcases cmpP_range x y with e | e | e <;> omega, fun h => by omega⟩
theorem cmpP_trans {x y z : PT} (h : cmpP x y < 0) (k : cmpP y z < 0) : cmpP x z < 0 := cmpP_neg.2 (cmpL_trans (cmpP_neg.1 h) (cmpP_neg.1 k))
theorem cmpP_ntrans {x y z : PT} (h : ¬ cmpP x y < 0) (k : ¬ cmpP y z < 0) : ¬ cmpP x z < 0 := fun e => by
  have h1 := cmpP_swap x y
  rcases cmpP_range y x with q | q | q
  · exact k (cmpP_trans (by omega) e)
  · have : y.f0 = x.f0 := cmpP_zero q
    apply k
    unfold cmpP at e ⊢
    rw [this]; exact e
  · omega
theorem swoP : Go.Sort.SWO (fun x y : PT => decide (cmpP x y < 0)) :=
  ⟨fun x => by simp [cmpP_self], fun x y z h k => by simp only [decide_eq_true_eq] at *; exact cmpP_trans h k, fun x y z h k => by simp only [decide_eq_false_iff_not] at *; exact cmpP_ntrans h k⟩
def DistP (l : List PT) : Prop := l.Pairwise fun x y => x.f0 ≠ y.f0
def RiseP (l : List PT) : Prop := l.Pairwise fun x y => cmpP x y < 0
theorem DistP.perm {l m : List PT} (h : DistP l) (p : l.Perm m) : DistP m := p.pairwise h (fun hab => Ne.symm hab)
theorem DistP.eq {l : List PT} (h : DistP l) {x y : PT} (hx : x ∈ l) (hy : y ∈ l) (e : x.f0 = y.f0) : x = y := by
  induction l with
  | nil => cases hx
  | cons z l ih =>
    obtain ⟨h1, h2⟩ := List.pairwise_cons.1 h
    rcases List.mem_cons.1 hx with rfl | hx1
    · rcases List.mem_cons.1 hy with rfl | hy1
      · rfl
      · exact absurd e (h1 y hy1)
    · rcases List.mem_cons.1 hy with rfl | hy1
      · exact absurd e.symm (h1 x hx1)
      · exact ih h2 hx1 hy1
theorem RiseP.dist {l : List PT} (h : RiseP l) : DistP l := h.imp fun {a b} hab e => by
  unfold cmpP at hab
  rw [e, cmpL_self] at hab; omega
noncomputable def vsort (l : List PT) : List PT := l.mergeSort (fun x y => !(decide (cmpP y x < 0)))
theorem vsort_perm (l : List PT) : (vsort l).Perm l := List.mergeSort_perm _ _
theorem vsort_sorted (l : List PT) : (vsort l).Pairwise fun x y => ¬ cmpP y x < 0 := by
  refine (List.pairwise_mergeSort (le := fun x y => !(decide (cmpP y x < 0))) ?_ ?_ l).imp (fun h => by simpa using h)
  · intro a b c h1 h2
    simp only [Bool.not_eq_true', decide_eq_false_iff_not] at h1 h2 ⊢
    exact cmpP_ntrans h2 h1
  · intro a b
    simp only [Bool.or_eq_true, Bool.not_eq_true', decide_eq_false_iff_not]
    have := cmpP_swap a b
    omega
theorem vsort_len (l : List PT) : (vsort l).length = l.length := (vsort_perm l).length_eq
theorem sorted_dist {l : List PT} (h : l.Pairwise fun x y => ¬ cmpP y x < 0) (hd : DistP l) : RiseP l := by
  refine (h.and hd).imp fun {a b} ⟨h1, h2⟩ => ?_
  have := cmpP_swap a b
  rcases cmpP_range a b with e | e | e
  · omega
  · exact absurd (cmpP_zero e) h2
  · omega
theorem sorted_unique {l r r' : List PT} (hd : DistP l) (p : r.Perm l) (p' : r'.Perm l) (h : r.Pairwise fun x y => ¬ cmpP y x < 0) (h' : r'.Pairwise fun x y => ¬ cmpP y x < 0) : r = r' := by
  refine (p.trans p'.symm).eq_of_pairwise (le := fun x y => ¬ cmpP y x < 0) (fun a b ha hb q1 q2 => ?_) h h'
  refine hd.eq (p.mem_iff.1 ha) (p'.mem_iff.1 hb) (cmpP_zero ?_)
  have := cmpP_swap a b
  omega
theorem adj_rise : ∀ {l : List PT}, (∀ i, (h : i + 1 < l.length) → cmpP l[i] l[i + 1] < 0) → RiseP l
  | [], _ => .nil
  | [x], _ => List.pairwise_singleton _ _
  | x :: y :: l, h => by
    have h2 : RiseP (y :: l) := adj_rise fun i hi => h (i + 1) (by simpa using hi)
    refine List.pairwise_cons.2 ⟨fun z hz => ?_, h2⟩
    have h0 := h 0 (by simp)
    simp only [List.getElem_cons_zero, Nat.zero_add, List.getElem_cons_succ] at h0
    rcases List.mem_cons.1 hz with rfl | hz1
    · exact h0
    · exact cmpP_trans h0 ((List.pairwise_cons.1 h2).1 z hz1)
theorem up_one {ρ : Type} {body : Int → Option (Int ⊕ (Unit ⊕ ρ))} {n : Nat} (q : Nat → Bool) (v : ρ) (h : ∀ i : Nat, 1 ≤ i → i < n → body i = some (bif q i then .inr (.inr v) else .inl ((i + 1 : Nat) : Int))) (he : ∀ i : Nat, 1 ≤ i → n ≤ i → body i = some (.inr (.inl ()))) :
    ((∀ i, 1 ≤ i → i < n → q i = false) → loopO body 1 = some (.inl ())) ∧ ((∃ i, 1 ≤ i ∧ i < n ∧ q i = true) → loopO body 1 = some (.inr v)) := by
  have key : ∀ d i : Nat, n - i = d → 1 ≤ i → ((∀ j, i ≤ j → j < n → q j = false) → loopO body (i : Int) = some (.inl ())) ∧ ((∃ j, i ≤ j ∧ j < n ∧ q j = true) → loopO body (i : Int) = some (.inr v)) := by
    intro d
    induction d with
    | zero => exact fun i hd hi => ⟨fun _ => loopO_done (he i hi (by omega)), fun ⟨j, h1, h2, _⟩ => by omega⟩
    | succ d ih =>
      intro i hd hi
      have hb := h i hi (by omega)
      cases hq : q i with
      | true =>
        rw [hq] at hb
        exact ⟨fun hall => (by have := hall i (Nat.le_refl _) (by omega); rw [hq] at this; cases this), fun _ => loopO_done hb⟩
      | false =>
        rw [hq] at hb
        obtain ⟨h1, h2⟩ := ih (i + 1) (by omega) (by omega)
        rw [loopO_step hb]
        refine ⟨fun hall => h1 fun j hj hn => hall j (by omega) hn, fun ⟨j, hj, hn, hqj⟩ => h2 ⟨j, ?_, hn, hqj⟩⟩
        rcases Nat.lt_or_ge i j with hlt | hge
        · omega
        · obtain rfl : j = i := by omega
          rw [hq] at hqj; cases hqj
  exact key (n - 1) 1 rfl (Nat.le_refl _)
open Classical in
noncomputable def vecE (l : List PT) : List PT × Int := if l.length > 1000 then ([], 7) else if (l.any fun p => (rightE p.f0).1 != 0) = true then ([], 41) else if DistP l then (vsort l, 0) else ([], 150)
theorem all_right {l : List PT} (h : ¬ (l.any fun p => (rightE p.f0).1 != 0) = true) : ∀ p ∈ l, (rightE p.f0).1 = 0 := fun p hp => by
  rw [List.any_eq_true] at h
  exact Decidable.byContradiction fun hn => h ⟨p, hp, by simpa using hn⟩
theorem Vector_eq (l : List PT) : vec_Vector l = some (vecE l) := by
  unfold vec_Vector vecE
  by_cases hlen : l.length > 1000
  · rw [if_pos hlen, show decide ((l.length : Int) > 1000) = true from decide_eq_true (by omega)]; rfl
  rw [if_neg hlen, show decide ((l.length : Int) > 1000) = false from decide_eq_false (by omega)]
  simp only [cond_false]
  rw [up_any (n := l.length) (fun j => (l[j]?).any fun p => (rightE p.f0).1 != 0) (([], 41) : List PT × Int) (fun j hj => ?_) ?_, any_range]
  rotate_left
  · unfold vec_Vector_l18
    rw [show decide ((l.length : Int) < (l.length : Int)) = false from decide_eq_false (by omega)]; rfl
  · unfold vec_Vector_l18
    rw [show decide ((j : Int) < (l.length : Int)) = true from decide_eq_true (by omega)]
    simp only [cond_true, ix_nat, List.getElem?_eq_getElem hj, Option.bind_some, wrap_up (show j < 4294967296 by omega), Right_eq, Option.any_some]
    cases (rightE l[j].f0).1 != 0 <;> rfl
  by_cases hr : (l.any fun p => (rightE p.f0).1 != 0) = true
  · rw [if_pos hr, hr]; rfl
  rw [if_neg hr, show (l.any fun p => (rightE p.f0).1 != 0) = false by simpa using hr]
  have hall := all_right hr
  simp only [cond_false, Option.bind_some]
  rw [filter_up l (fun _ => true) id (by omega) (fun acc i hi ha => ?_) (fun acc => ?_)]
  rotate_left
  · unfold vec_Vector_l65
    have h16 := (right_parts (hall l[i] (List.getElem_mem hi))).1
    rw [show decide ((i : Int) < (l.length : Int)) = true from decide_eq_true (by omega)]
    simp only [cond_true, ix_nat, List.getElem?_eq_getElem hi, Option.bind_some, wrap_up (show i < 4294967296 by omega)]
    unfold slices_Clone
    rw [app_eq (by simp; omega)]
    simp only [Option.bind_some, List.nil_append]
    rw [app_eq (by simp; omega)]
    rfl
  · unfold vec_Vector_l65
    rw [show decide ((l.length : Int) < (l.length : Int)) = false from decide_eq_false (by omega)]; rfl
  rw [show l.filter (fun _ => true) = l from List.filter_eq_self.2 fun _ _ => rfl]
  simp only [Option.bind_some, id]
  have hcmp : ∀ x ∈ l, ∀ y : PT, vec_Vector_1 x y = some (cmpP x y) := fun x hx y => by
    have := (right_parts (hall x hx)).1
    unfold vec_Vector_1
    rw [compare_eq _ _ (by omega)]; rfl
  refine sortBind_of ⟨cmpP, fun x hx y _ => hcmp x hx y, swoP⟩ fun r hrel => ?_
  have hp := hrel.1
  have hs := hrel.2 cmpP fun x hx y _ => hcmp x hx y
  have hrl := hp.length_eq
  obtain ⟨g1, g2⟩ := up_one (body := vec_Vector_l131 r) (n := r.length) (fun i => match r[i - 1]?, r[i]? with | some x, some y => cmpP x y == 0 | _, _ => false) (([], 150) : List PT × Int) (fun i h1 hi => by
      unfold vec_Vector_l131
      rw [show decide ((i : Int) < (r.length : Int)) = true from decide_eq_true (by omega)]
      have hx := hcmp r[i - 1] (hp.mem_iff.1 (List.getElem_mem (by omega))) r[i]
      unfold vec_Vector_1 at hx
      simp only [cond_true, ix_prev (show 0 < i by omega) (show i < 4294967296 by omega), ix_nat, List.getElem?_eq_getElem hi, List.getElem?_eq_getElem (show i - 1 < r.length by omega), Option.bind_some, wrap_up (show i < 4294967296 by omega)]
      rw [compare_eq _ _ (by have := (right_parts (hall r[i - 1] (hp.mem_iff.1 (List.getElem_mem (by omega))))).1; omega)]
      simp only [Option.bind_some]
      show _ = some (bif cmpL r[i - 1].f0 r[i].f0 == 0 then _ else _)
      cases cmpL r[i - 1].f0 r[i].f0 == 0 <;> rfl)
    (fun i h1 hi => by
      unfold vec_Vector_l131
      rw [show decide ((i : Int) < (r.length : Int)) = false from decide_eq_false (by omega)]; rfl)
  by_cases hd : DistP l
  · rw [if_pos hd, g1 fun i h1 hi => ?_]
    · rw [sorted_unique hd hp (vsort_perm l) hs (vsort_sorted l)]; rfl
    · have hdr := hd.perm hp.symm
      have hri := sorted_dist hs hdr
      have := List.pairwise_iff_getElem.1 hri (i - 1) i (by omega) hi (by omega)
      simp only [List.getElem?_eq_getElem hi, List.getElem?_eq_getElem (show i - 1 < r.length by omega)]
      simp; omega
  · rw [if_neg hd, g2 ?_]
    · rfl
    · refine Classical.byContradiction fun hn => hd (DistP.perm (RiseP.dist (adj_rise (l := r) fun i hi => ?_)) hp)
      have hnot := List.pairwise_iff_getElem.1 hs i (i + 1) (by omega) hi (by omega)
      have hsw := cmpP_swap r[i] r[i + 1]
      rcases cmpP_range r[i] r[i + 1] with e | e | e
      · omega
      · refine absurd ⟨i + 1, by omega, hi, ?_⟩ hn
        simp only [Nat.add_sub_cancel, List.getElem?_eq_getElem hi, List.getElem?_eq_getElem (show i < r.length by omega), e]; rfl
      · omega
theorem vecE_ok {l : List PT} (h : (vecE l).2 = 0) : l.length ≤ 1000 ∧ (∀ p ∈ l, (rightE p.f0).1 = 0) ∧ DistP l ∧ (vecE l).1 = vsort l := by
  unfold vecE at h ⊢
  split at h
  · cases h
  · rename_i h1
    split at h
    · cases h
    · rename_i h2
      split at h
      · rename_i h3
        rw [if_neg h1, if_neg h2, if_pos h3]
        exact ⟨by omega, all_right h2, h3, rfl⟩
      · cases h
end Go.Proofs.YtkjkkimnjpodiaaGreatDoor
/- Plain laws: points alike; maps by texts; lists gathered. -/
set_option linter.unusedVariables false
set_option linter.unusedSimpArgs false
set_option maxRecDepth 100000
namespace Go.Proofs.YtkjkkimnjpodiaaGreatDoor
open Go.GB Go.Lib
def FinP (p : PT) : Prop := p.f0.length ≤ 2147483000 ∧ ∃ x, p.f1 = some x
open Classical in
theorem Same_eq {a b : List PT} (ha : ∀ p ∈ a, FinP p) (hb : ∀ p ∈ b, FinP p) (hl : a.length < 2147483648) : tocsinref11_SamePoints a b = some (decide (a = b)) := by
  unfold tocsinref11_SamePoints
  by_cases hlen : a.length = b.length
  · rw [show ((a.length : Int) != (b.length : Int)) = false by simp [hlen]]
    simp only [cond_false]
    rw [up_any (n := a.length) (fun j => match a[j]?, b[j]? with | some x, some y => !(decide (x = y)) | _, _ => false) false (fun j hj => ?_) ?_]
    · cases hq : (List.range a.length).any (fun j => match a[j]?, b[j]? with | some x, some y => !(decide (x = y)) | _, _ => false) with
      | true =>
        obtain ⟨j, hj, hn⟩ := List.any_eq_true.1 hq
        have hj' := List.mem_range.1 hj
        have : a ≠ b := fun e => by
          subst e
          rw [List.getElem?_eq_getElem hj'] at hn
          simp at hn
        rw [decide_eq_false this]; rfl
      | false =>
        rw [List.any_eq_false] at hq
        have : a = b := by
          refine List.ext_getElem hlen fun j h1 h2 => ?_
          have := hq j (List.mem_range.2 h1)
          rw [List.getElem?_eq_getElem h1, List.getElem?_eq_getElem h2] at this
          simpa using this
        rw [decide_eq_true this]; rfl
    · unfold tocsinref11_SamePoints_l18
      rw [show decide ((a.length : Int) < (a.length : Int)) = false from decide_eq_false (by omega)]; rfl
    · have hj2 : j < b.length := by omega
      obtain ⟨x1, x, x2⟩ := ha a[j] (List.getElem_mem hj)
      obtain ⟨y1, y, y2⟩ := hb b[j] (List.getElem_mem hj2)
      unfold tocsinref11_SamePoints_l18
      rw [show decide ((j : Int) < (a.length : Int)) = true from decide_eq_true (by omega)]
      simp only [cond_true, ix_nat, List.getElem?_eq_getElem hj, List.getElem?_eq_getElem hj2, Option.bind_some, wrap_up (show j < 4294967296 by omega)]
      rw [refSame_eq _ _ (by omega)]
      simp only [Option.bind_some, x2, y2, fbits]
      have hiff : a[j] = b[j] ↔ cmpL a[j].f0 b[j].f0 = 0 ∧ x = y := by
        constructor
        · intro e
          rw [e] at x2 ⊢
          rw [x2] at y2
          exact ⟨cmpL_self _, by cases y2; rfl⟩
        · rintro ⟨e1, e2⟩
          have := cmpL_zero e1
          revert x2 y2 this
          generalize a[j] = p
          generalize b[j] = q
          obtain ⟨p1, p2⟩ := p
          obtain ⟨q1, q2⟩ := q
          rintro h1 h2 h3
          simp only at h1 h2 h3
          rw [h1, h2, h3, e2]
      by_cases h0 : cmpL a[j].f0 b[j].f0 = 0
      · by_cases hxy : x = y
        · rw [decide_eq_true h0, decide_eq_true (hiff.2 ⟨h0, hxy⟩), hxy]
          simp
        · rw [decide_eq_true h0, decide_eq_false (fun e => hxy (hiff.1 e).2)]
          have : ((x : Int) != (y : Int)) = true := bne_iff_ne.2 fun e => hxy (by omega)
          simp [this]
      · rw [decide_eq_false h0, decide_eq_false (fun e => h0 (hiff.1 e).1)]
        rfl
  · rw [show ((a.length : Int) != (b.length : Int)) = true by simpa using fun e : (a.length : Int) = b.length => hlen (by omega), decide_eq_false (fun e => hlen (by rw [e]))]
    rfl
theorem Same_self {a : List PT} (ha : ∀ p ∈ a, FinP p) (hl : a.length < 2147483648) : tocsinref11_SamePoints a a = some true := by
  rw [Same_eq ha ha hl]; simp
theorem strBeq (a b : ByteArray) : Ky.str.beq a b = true ↔ a = b := ba_beq
theorem mget_mput {υ : Type} (k : ByteArray) (v : υ) (k' : ByteArray) : ∀ m : List (ByteArray × υ), mget Ky.str (mput Ky.str m k v) k' = bif Ky.str.beq k' k then some v else mget Ky.str m k'
  | [] => rfl
  | (k1, v1) :: m => by
    unfold mput
    cases h1 : Ky.str.beq k k1 with
    | true =>
      obtain rfl := (strBeq _ _).1 h1
      simp only [cond_true, mget]
      cases Ky.str.beq k' k <;> rfl
    | false =>
      simp only [cond_false, mget]
      rw [mget_mput k v k' m]
      cases h2 : Ky.str.beq k' k1 with
      | true =>
        obtain rfl := (strBeq _ _).1 h2
        cases h3 : Ky.str.beq k' k with
        | true => obtain rfl := (strBeq _ _).1 h3; rw [h1] at h2; cases h2
        | false => rfl
      | false => rfl
end Go.Proofs.YtkjkkimnjpodiaaGreatDoor
/- Plain laws: numbers and texts in bytes: the program's are the document's. -/
set_option linter.unusedVariables false
set_option linter.unusedSimpArgs false
set_option maxRecDepth 100000
namespace Go.Proofs.YtkjkkimnjpodiaaGreatDoor
open Go.GB Go.Lib
theorem joined_eq {a b : List Int} (h : a.length + b.length ≤ 2147483648) : vint_joined a b = some (a ++ b) := by
  unfold vint_joined
  have e : mkrow (0 : Int) 0 (IntKind.wrap .i64 ((a.length : Int) + (b.length : Int))) = some [] := by
    unfold mkrow
    rw [wrap64 (by omega) (by omega), if_pos ⟨by omega, by omega, by omega⟩]; rfl
  rw [e]
  simp only [Option.bind_some]
  rw [app_eq (by simp; omega)]
  simp only [Option.bind_some, List.nil_append]
  rw [app_eq h]; rfl
theorem PutU_eq {a : List Int} {n : Nat} (hn : n < 18446744073709551616) (h : a.length + 10 ≤ 2147483648) : vint_PutU a (n : Int) = some (a ++ uv n) := by
  unfold vint_PutU
  obtain ⟨m, acc, h1, h2, h3, h4⟩ := putu_loop (body := vint_PutU_l28) (fun n acc hn => by
    unfold vint_PutU_l28
    by_cases hlt : n < 128
    · rw [if_pos hlt, show decide ((((n : Nat) : Int), acc).1 ≥ 128) = false from decide_eq_false (by show ¬ ((n : Int) ≥ 128); omega)]; rfl
    · rw [if_neg hlt, show decide ((((n : Nat) : Int), acc).1 ≥ 128) = true from decide_eq_true (by show (n : Int) ≥ 128; omega)]
      have e1 : bitOr .u8 (IntKind.wrap .u8 (n : Int)) 128 = ((n % 128 + 128 : Nat) : Int) := by
        have := fin_and (P := fun c => bitOr .u8 ((c : Nat) : Int) 128 = ((c % 128 + 128 : Nat) : Int)) or128 (n := n % 256) (by omega)
        rw [wrapU8_eq, show (n : Int) % 256 = ((n % 256 : Nat) : Int) by omega, this]; omega
      have e2 : shr .u64 (n : Int) 7 = ((n / 128 : Nat) : Int) := shr_nat .u64 n 7 (by decide)
      simp only [cond_true, e1, e2]) 10 n [] (by omega) hn (by simp) (by omega)
  rw [show ((n : Int), ([] : List Int)) = ((n : Int), []) from rfl, h2]
  simp only [Option.bind_some]
  rw [wrapU8 (by omega) (by omega), app_eq (by simp at h4 ⊢; omega), h3]
  simp only [Option.bind_some, List.nil_append]
  rw [joined_eq (by have := uv_len n; unfold uv at this; omega)]
  rfl
theorem PutText_eq {a : List Int} {s : ByteArray} (h : a.length + 10 + s.size ≤ 2147483648) : vint_PutText a s = some (a ++ uv s.size ++ bytesOf s) := by
  unfold vint_PutText
  rw [wrapU64 (by omega) (by omega), PutU_eq (by omega) (by omega)]
  simp only [Option.bind_some]
  rw [sb_eq (by omega)]
  simp only [Option.bind_some]
  rw [joined_eq (by have := uv_len s.size; simp [bytesOf_length]; omega)]
  rfl
end Go.Proofs.YtkjkkimnjpodiaaGreatDoor
/- Plain laws: what is written in few bytes is read back. -/
set_option linter.unusedVariables false
set_option linter.unusedSimpArgs false
set_option maxRecDepth 100000
namespace Go.Proofs.YtkjkkimnjpodiaaGreatDoor
open Go.GB Go.Lib
end Go.Proofs.YtkjkkimnjpodiaaGreatDoor
/- Plain laws: label sets in bytes. -/
set_option linter.unusedVariables false
set_option linter.unusedSimpArgs false
set_option maxRecDepth 100000
namespace Go.Proofs.YtkjkkimnjpodiaaGreatDoor
open Go.GB Go.Lib
def encLab (x : S76) : List Int := (uv x.f0.size ++ bytesOf x.f0) ++ (uv x.f1.size ++ bytesOf x.f1)
def encLabs (l : List S76) : List Int := l.flatMap encLab
def encL (l : List S76) : List Int := uv l.length ++ encLabs l
theorem encLab_len {x : S76} (h : oneE x = 0) : (encLab x).length ≤ 340 := by
  obtain ⟨h1, _, h2, _⟩ := one_parts h
  have h3 := (named_valid h1).1
  have := uv_len x.f0.size
  have := uv_len x.f1.size
  simp [encLab, bytesOf_length]
  omega
theorem encLabs_len : ∀ {l : List S76}, (∀ x ∈ l, oneE x = 0) → (encLabs l).length ≤ 340 * l.length
  | [], _ => by simp [encLabs]
  | x :: r, h => by
    have h1 := encLab_len (h x (by simp))
    have h2 := encLabs_len (l := r) (fun y hy => h y (by simp [hy]))
    unfold encLabs at h2 ⊢
    simp only [List.flatMap_cons, List.length_append, List.length_cons]
    omega
theorem encLabs_take {l : List S76} {i : Nat} (hi : i < l.length) : encLabs (l.take (i + 1)) = encLabs (l.take i) ++ encLab l[i] := by
  unfold encLabs
  rw [List.take_add_one, List.getElem?_eq_getElem hi]
  simp only [Option.toList_some, List.flatMap_append, List.flatMap_cons, List.flatMap_nil, List.append_nil]
theorem Put_eq {a : List Int} {l : List S76} (ha : a.length ≤ 2147470000) : labels_Put a l = some (if (rightE l).1 = 0 then a ++ encL l else [], (rightE l).1) := by
  unfold labels_Put labels_right
  rw [Right_eq]
  simp only [Option.bind_some]
  by_cases h : (rightE l).1 = 0
  · obtain ⟨h1, h2⟩ := right_parts h
    rw [if_pos h, show ((rightE l).1 != 0) = false by simp [h]]
    simp only [cond_false]
    rw [wrapU64 (by omega) (by omega), PutU_eq (by omega) (by omega)]
    simp only [Option.bind_some]
    have hl := uv_len l.length
    have hloop := up_inv (body := labels_Put_l40 l) (fun i => (a ++ uv l.length ++ encLabs (l.take i), (i : Int))) (n := l.length) (r := a ++ uv l.length ++ encLabs l) (fun i hi => by
      unfold labels_Put_l40
      have hx : ix l (i : Int) = some l[i] := by rw [ix_nat, List.getElem?_eq_getElem hi]
      have h3 := encLabs_len (l := l.take i) (fun x hx => h2 x (List.mem_of_mem_take hx))
      have h4 := h2 l[i] (List.getElem_mem hi)
      obtain ⟨k1, _, k2, _⟩ := one_parts h4
      have k3 := (named_valid k1).1
      have k4 := uv_len l[i].f0.size
      have hti : (l.take i).length ≤ 16 := by rw [List.length_take]; omega
      rw [show decide ((a ++ uv l.length ++ encLabs (l.take i), (i : Int)).2 < (l.length : Int)) = true from decide_eq_true (by show (i : Int) < _; omega)]
      simp only [cond_true, hx, Option.bind_some]
      rw [PutText_eq (by simp only [List.length_append]; omega)]
      simp only [Option.bind_some]
      rw [PutText_eq (by simp only [List.length_append, bytesOf_length]; omega)]
      simp only [Option.bind_some, wrap_up (show i < 4294967296 by omega)]
      rw [encLabs_take hi]
      simp [encLab]) (by
      unfold labels_Put_l40
      rw [show decide ((a ++ uv l.length ++ encLabs (l.take l.length), (l.length : Int)).2 < (l.length : Int)) = false from decide_eq_false (by show ¬ ((l.length : Int) < _); omega)]
      rw [List.take_length]; rfl) 0 (Nat.zero_le _)
    simp only [List.take_zero, encLabs, List.flatMap_nil, List.append_nil, Int.ofNat_zero, Int.natCast_zero] at hloop
    rw [hloop]
    simp [h, encL, encLabs]
  · rw [if_neg h, show ((rightE l).1 != 0) = true by simpa using h]
    rfl
end Go.Proofs.YtkjkkimnjpodiaaGreatDoor
/- Plain laws: a vector parted into groups. -/
set_option linter.unusedVariables false
set_option linter.unusedSimpArgs false
set_option maxRecDepth 100000
namespace Go.Proofs.YtkjkkimnjpodiaaGreatDoor
open Go.GB Go.Lib
abbrev GT := S61
noncomputable abbrev gE (names : List ByteArray) (w : Bool) (p : PT) : List LB := groupE p.f0 names w
theorem cmpL_ltrans {a b c : List LB} (h : cmpL a b < 0) (k : cmpL b c < 0) : cmpL a c < 0 := by
  have h1 : cmpL a b = -1 := by rcases cmpL_range a b with e | e | e <;> omega
  have h2 : cmpL b c = -1 := by rcases cmpL_range b c with e | e | e <;> omega
  rw [cmpL_trans h1 h2]; decide
open Classical in
structure IsParts (names : List ByteArray) (w : Bool) (v : List PT) (gs : List GT) : Prop where
  rise : gs.Pairwise fun x y => cmpL x.f0 y.f0 < 0
  part : ∀ x ∈ gs, x.f1 = v.filter (fun p => decide (gE names w p = x.f0)) ∧ x.f1 ≠ []
  all : ∀ p ∈ v, ∃ x ∈ gs, x.f0 = gE names w p
open Classical in
theorem IsParts.uniq {names : List ByteArray} {w : Bool} {v : List PT} {gs gs' : List GT} (h : IsParts names w v gs) (h' : IsParts names w v gs') : gs = gs' := by
  have mem : ∀ {a b : List GT}, IsParts names w v a → IsParts names w v b → ∀ x ∈ a, x ∈ b := fun {a b} ha hb x hx => by
    obtain ⟨h1, h2⟩ := ha.part x hx
    obtain ⟨p, hp⟩ := List.exists_mem_of_ne_nil _ h2
    rw [h1] at hp
    obtain ⟨hp1, hp2⟩ := List.mem_filter.1 hp
    obtain ⟨y, hy, e⟩ := hb.all p hp1
    have e2 : y.f0 = x.f0 := e.trans (of_decide_eq_true hp2)
    have e3 : y.f1 = x.f1 := by rw [(hb.part y hy).1, h1, e2]
    have : y = x := by
      obtain ⟨y0, y1⟩ := y
      obtain ⟨x0, x1⟩ := x
      simp only at e2 e3
      rw [e2, e3]
    rw [← this]; exact hy
  have nd : ∀ {a : List GT}, IsParts names w v a → a.Nodup := fun {a} ha => ha.rise.imp fun {x y} hxy e => by rw [e, cmpL_self] at hxy; omega
  have hp : gs.Perm gs' := (List.perm_ext_iff_of_nodup (nd h) (nd h')).2 fun x => ⟨mem h h' x, mem h' h x⟩
  refine hp.eq_of_pairwise (le := fun x y => cmpL x.f0 y.f0 < 0) (fun a b ha hb q1 q2 => ?_) h.rise h'.rise
  have := cmpL_swap a.f0 b.f0
  omega
open Classical in
theorem IsParts.nil (names : List ByteArray) (w : Bool) : IsParts names w [] [] := ⟨.nil, fun x hx => (by cases hx), fun p hp => (by cases hp)⟩
theorem rise_at {gs : List GT} (h : gs.Pairwise fun x y => cmpL x.f0 y.f0 < 0) {i j : Nat} (hij : i < j) (hj : j < gs.length) : cmpL (gs[i]'(by omega)).f0 gs[j].f0 < 0 := List.pairwise_iff_getElem.1 h i j (by omega) hj hij
open Classical in
theorem IsParts.more {names : List ByteArray} {w : Bool} {v : List PT} {gs : List GT} (h : IsParts names w v gs) {p : PT} {r : Nat} (hr : r < gs.length) (he : gs[r].f0 = gE names w p) :
    IsParts names w (v ++ [p]) (gs.set r ⟨gs[r].f0, gs[r].f1 ++ [p]⟩) := by
  have hget : ∀ i (hi : i < (gs.set r ⟨gs[r].f0, gs[r].f1 ++ [p]⟩).length), ((gs.set r ⟨gs[r].f0, gs[r].f1 ++ [p]⟩)[i]).f0 = (gs[i]'(by rw [List.length_set] at hi; exact hi)).f0 := fun i hi => by
    rw [List.getElem_set]
    split
    · rename_i e; subst e; rfl
    · rfl
  refine ⟨List.pairwise_iff_getElem.2 fun i j hi hj hij => ?_, fun x hx => ?_, fun q hq => ?_⟩
  · rw [hget i hi, hget j hj]
    rw [List.length_set] at hi hj
    exact rise_at h.rise hij hj
  · obtain ⟨i, hi, rfl⟩ := List.mem_iff_getElem.1 hx
    have hi' : i < gs.length := by rw [List.length_set] at hi; exact hi
    rw [List.getElem_set]
    by_cases e : r = i
    · subst e
      rw [if_pos rfl]
      obtain ⟨h1, h2⟩ := h.part _ (List.getElem_mem hr)
      refine ⟨?_, by simp⟩
      rw [List.filter_append, ← h1]
      simp [he]
    · rw [if_neg e]
      obtain ⟨h1, h2⟩ := h.part _ (List.getElem_mem hi')
      refine ⟨?_, h2⟩
      rw [List.filter_append, ← h1]
      have : gE names w p ≠ gs[i].f0 := fun e2 => by
        rw [← he] at e2
        rcases Nat.lt_trichotomy r i with hlt | heq | hgt
        · have := rise_at h.rise hlt hi'; rw [e2, cmpL_self] at this; omega
        · exact e heq
        · have := rise_at h.rise hgt hr; rw [e2, cmpL_self] at this; omega
      simp [this]
  · rcases List.mem_append.1 hq with hq | hq
    · obtain ⟨x, hx, ex⟩ := h.all q hq
      obtain ⟨i, hi, rfl⟩ := List.mem_iff_getElem.1 hx
      have hi2 : i < (gs.set r ⟨gs[r].f0, gs[r].f1 ++ [p]⟩).length := by rw [List.length_set]; exact hi
      exact ⟨_, List.getElem_mem hi2, by rw [hget i hi2]; exact ex⟩
    · rw [List.mem_singleton.1 hq]
      have hr2 : r < (gs.set r ⟨gs[r].f0, gs[r].f1 ++ [p]⟩).length := by rw [List.length_set]; exact hr
      exact ⟨_, List.getElem_mem hr2, by rw [hget r hr2]; exact he⟩
open Classical in
theorem IsParts.other {names : List ByteArray} {w : Bool} {v : List PT} {gs : List GT} (h : IsParts names w v gs) {p : PT} {r : Nat} (hr : r ≤ gs.length) (h1 : ∀ j (hj : j < gs.length), j < r → cmpL gs[j].f0 (gE names w p) < 0) (h2 : ∀ j (hj : j < gs.length), r ≤ j → cmpL (gE names w p) gs[j].f0 < 0) :
    IsParts names w (v ++ [p]) (gs.take r ++ [⟨gE names w p, [p]⟩] ++ gs.drop r) := by
  have ht : ∀ x ∈ gs.take r, cmpL x.f0 (gE names w p) < 0 := fun x hx => by
    obtain ⟨j, hj, e⟩ := List.mem_iff_getElem.1 hx
    rw [List.getElem_take] at e
    rw [List.length_take] at hj
    rw [← e]; exact h1 j (by omega) (by omega)
  have hd : ∀ x ∈ gs.drop r, cmpL (gE names w p) x.f0 < 0 := fun x hx => by
    obtain ⟨j, hj, e⟩ := List.mem_iff_getElem.1 hx
    rw [List.getElem_drop] at e
    rw [List.length_drop] at hj
    rw [← e]; exact h2 (r + j) (by omega) (by omega)
  have hne : ∀ x ∈ gs, gE names w p ≠ x.f0 := fun x hx e => by
    rw [← List.take_append_drop r gs] at hx
    rcases List.mem_append.1 hx with hx | hx
    · have := ht x hx; rw [e, cmpL_self] at this; omega
    · have := hd x hx; rw [e, cmpL_self] at this; omega
  refine ⟨?_, fun x hx => ?_, fun q hq => ?_⟩
  · refine List.pairwise_append.2 ⟨List.pairwise_append.2 ⟨h.rise.sublist (List.take_sublist _ _), List.pairwise_singleton _ _, fun a ha b hb => ?_⟩, h.rise.sublist (List.drop_sublist _ _), fun a ha b hb => ?_⟩
    · rw [List.mem_singleton.1 hb]; exact ht a ha
    · rcases List.mem_append.1 ha with ha | ha
      · exact cmpL_ltrans (ht a ha) (hd b hb)
      · rw [List.mem_singleton.1 ha]; exact hd b hb
  · have old : ∀ x ∈ gs, x.f1 = (v ++ [p]).filter (fun p => decide (gE names w p = x.f0)) ∧ x.f1 ≠ [] := fun x hx => by
      obtain ⟨q1, q2⟩ := h.part x hx
      refine ⟨?_, q2⟩
      rw [List.filter_append, ← q1]
      simp [hne x hx]
    rcases List.mem_append.1 hx with hx | hx
    · rcases List.mem_append.1 hx with hx | hx
      · exact old x (List.mem_of_mem_take hx)
      · rw [List.mem_singleton.1 hx]
        refine ⟨?_, by simp⟩
        have hv : v.filter (fun q => decide (gE names w q = gE names w p)) = [] := by
          rw [List.filter_eq_nil_iff]
          intro q hq hdec
          obtain ⟨x, hx, e⟩ := h.all q hq
          exact hne x hx (by rw [e]; exact (of_decide_eq_true hdec).symm)
        rw [List.filter_append, hv]
        simp
    · exact old x (List.mem_of_mem_drop hx)
  · rcases List.mem_append.1 hq with hq | hq
    · obtain ⟨x, hx, e⟩ := h.all q hq
      refine ⟨x, ?_, e⟩
      rw [← List.take_append_drop r gs] at hx
      rcases List.mem_append.1 hx with hx | hx
      · exact List.mem_append_left _ (List.mem_append_left _ hx)
      · exact List.mem_append_right _ hx
    · rw [List.mem_singleton.1 hq]
      exact ⟨_, List.mem_append_left _ (List.mem_append_right _ (List.mem_singleton.2 rfl)), rfl⟩
theorem seek_loop {gs : List GT} {i : Int} {g : List LB} (hl : gs.length ≤ 2147483648) (hg : ∀ x ∈ gs, x.f0.length ≤ 2147483648) : ∀ (d k : Nat), gs.length - k = d → k ≤ gs.length → (∀ j (hj : j < gs.length), j < k → cmpL gs[j].f0 g < 0) →
    ∃ r : Nat, loopO (tocsinref16_Parts_l78 (gs, i) g) (k : Int) = some (r : Int) ∧ r ≤ gs.length ∧ (∀ j (hj : j < gs.length), j < r → cmpL gs[j].f0 g < 0) ∧ (∀ hr : r < gs.length, ¬ cmpL gs[r].f0 g < 0) := by
  intro d
  induction d with
  | zero =>
    intro k hd hk h
    have e : k = gs.length := by omega
    subst e
    refine ⟨gs.length, loopO_done ?_, Nat.le_refl _, h, fun hr => by omega⟩
    unfold tocsinref16_Parts_l78
    rw [show decide (((gs.length : Nat) : Int) < (((gs, i) : List GT × Int).1.length : Int)) = false from decide_eq_false (by show ¬ (gs.length : Int) < (gs.length : Int); omega)]; rfl
  | succ d ih =>
    intro k hd hk h
    have hlt : k < gs.length := by omega
    have hb : tocsinref16_Parts_l78 (gs, i) g (k : Int) = some (bif decide (cmpL gs[k].f0 g < 0) then .inl ((k + 1 : Nat) : Int) else .inr (k : Int)) := by
      unfold tocsinref16_Parts_l78
      rw [show decide ((k : Int) < (((gs, i) : List GT × Int).1.length : Int)) = true from decide_eq_true (by show (k : Int) < (gs.length : Int); omega)]
      simp only [cond_true, ix_nat, List.getElem?_eq_getElem hlt, Option.bind_some, refCompare_eq _ g (hg _ (List.getElem_mem hlt)), wrap_up (show k < 4294967296 by omega)]
      cases decide (cmpL gs[k].f0 g < 0) <;> rfl
    by_cases hc : cmpL gs[k].f0 g < 0
    · rw [decide_eq_true hc] at hb
      obtain ⟨r, h1, h2, h3, h4⟩ := ih (k + 1) (by omega) (by omega) (fun j hj hjk => by
        by_cases e : j = k
        · subst e; exact hc
        · exact h j hj (by omega))
      exact ⟨r, by rw [loopO_step hb]; exact h1, h2, h3, h4⟩
    · rw [decide_eq_false hc] at hb
      exact ⟨k, loopO_done hb, by omega, h, fun _ => hc⟩
end Go.Proofs.YtkjkkimnjpodiaaGreatDoor
/- Plain laws: what points are matched by. -/
set_option linter.unusedVariables false
set_option linter.unusedSimpArgs false
set_option maxRecDepth 100000
namespace Go.Proofs.YtkjkkimnjpodiaaGreatDoor
open Go.GB Go.Lib
theorem right_rise {l : List LB} (h : (rightE l).1 = 0) : l.Pairwise fun x y => cmpS x.f0 y.f0 = -1 := by
  obtain ⟨h1, h2⟩ := right_none h
  rw [List.pairwise_iff_getElem]
  intro i j hi hj hij
  have step : ∀ k, ∀ (hk : k + 1 < l.length), cmpS (l[k]'(by omega)).f0 l[k + 1].f0 = -1 := by
    intro k hk
    have h3 := h2 (k + 1) hk
    unfold faultAt at h3
    rw [List.getElem?_eq_getElem hk] at h3
    simp only at h3
    split at h3
    · cases h3
    · rw [if_neg (by omega), Nat.add_sub_cancel, List.getElem?_eq_getElem (by omega)] at h3
      simp only at h3
      split at h3
      · rename_i hc; exact hc
      · cases h3
  have key : ∀ d, ∀ (hd : i + 1 + d < l.length), cmpS l[i].f0 l[i + 1 + d].f0 = -1 := by
    intro d
    induction d with
    | zero => intro hd; exact step i (by omega)
    | succ d ih =>
      intro hd
      exact cmpS_trans (ih (by omega)) (step (i + 1 + d) (by omega))
  have := key (j - (i + 1)) (by omega)
  rw [show l[j] = l[i + 1 + (j - (i + 1))] from by congr 1; omega]
  exact this
theorem right_of {l : List LB} (h1 : l.length ≤ 16) (h2 : ∀ x ∈ l, oneE x = 0) (h3 : l.Pairwise fun x y => cmpS x.f0 y.f0 = -1) : (rightE l).1 = 0 := by
  have h4 : (List.range l.length).findSome? (faultAt l) = none := by
    rw [List.findSome?_eq_none_iff]
    intro i hi
    have hi' := List.mem_range.1 hi
    unfold faultAt
    rw [List.getElem?_eq_getElem hi']
    simp only
    rw [if_neg (by rw [h2 _ (List.getElem_mem hi')]; simp)]
    by_cases h0 : i = 0
    · rw [if_pos h0]
    · rw [if_neg h0, List.getElem?_eq_getElem (by omega)]
      simp only
      rw [if_pos (List.pairwise_iff_getElem.1 h3 (i - 1) i (by omega) hi' (by omega))]
  unfold rightE
  rw [if_neg (by omega), h4]; rfl
theorem right_filter {l : List LB} (h : (rightE l).1 = 0) (p : LB → Bool) : (rightE (l.filter p)).1 = 0 := by
  obtain ⟨h1, h2⟩ := right_parts h
  exact right_of (Nat.le_trans (List.length_filter_le p l) h1) (fun x hx => h2 x (List.mem_filter.1 hx).1) ((right_rise h).filter p)
theorem uvF_inj : ∀ (f n m : Nat) (a b : List Int), n < 128 ^ f → m < 128 ^ f → uvF f n ++ a = uvF f m ++ b → n = m ∧ a = b
  | 0, n, m, a, b, hn, hm, h => by
    simp only [uvF, List.nil_append] at h
    exact ⟨by simp at hn hm; omega, h⟩
  | f + 1, n, m, a, b, hn, hm, h => by
    unfold uvF at h
    rw [Nat.pow_succ] at hn hm
    by_cases h1 : n < 128
    · rw [if_pos h1] at h
      by_cases h2 : m < 128
      · rw [if_pos h2] at h
        simp only [List.cons_append, List.nil_append, List.cons.injEq] at h
        exact ⟨by omega, h.2⟩
      · rw [if_neg h2] at h
        simp only [List.cons_append, List.nil_append, List.cons.injEq] at h
        omega
    · rw [if_neg h1] at h
      by_cases h2 : m < 128
      · rw [if_pos h2] at h
        simp only [List.cons_append, List.nil_append, List.cons.injEq] at h
        omega
      · rw [if_neg h2] at h
        simp only [List.cons_append, List.cons.injEq] at h
        obtain ⟨e, k⟩ := uvF_inj f (n / 128) (m / 128) a b (by omega) (by omega) h.2
        exact ⟨by omega, k⟩
theorem uv_inj {n m : Nat} {a b : List Int} (hn : n < 4294967296) (hm : m < 4294967296) (h : uv n ++ a = uv m ++ b) : n = m ∧ a = b :=
  uvF_inj 10 n m a b (Nat.lt_of_lt_of_le hn (by decide)) (Nat.lt_of_lt_of_le hm (by decide)) h
theorem bytesOf_inj {s t : ByteArray} {a b : List Int} (hs : s.size = t.size) (h : bytesOf s ++ a = bytesOf t ++ b) : s = t ∧ a = b := by
  obtain ⟨h1, h2⟩ := List.append_inj h (by rw [bytesOf_length, bytesOf_length, hs])
  refine ⟨?_, h2⟩
  rw [← ofBytes_bytesOf s, h1, ofBytes_bytesOf]
theorem encLab_inj {x y : LB} {a b : List Int} (hx : oneE x = 0) (hy : oneE y = 0) (h : encLab x ++ a = encLab y ++ b) : x = y ∧ a = b := by
  obtain ⟨x1, _, x2, _⟩ := one_parts hx
  obtain ⟨y1, _, y2, _⟩ := one_parts hy
  have x3 := (named_valid x1).1
  have y3 := (named_valid y1).1
  unfold encLab at h
  simp only [List.append_assoc] at h
  obtain ⟨e1, h⟩ := uv_inj (by omega) (by omega) h
  obtain ⟨e2, h⟩ := bytesOf_inj e1 h
  obtain ⟨e3, h⟩ := uv_inj (by omega) (by omega) h
  obtain ⟨e4, h9⟩ := bytesOf_inj e3 h
  obtain ⟨xa, xb⟩ := x
  obtain ⟨ya, yb⟩ := y
  simp only at e2 e4
  subst e2 e4
  exact ⟨rfl, h9⟩
theorem encLabs_inj : ∀ {l m : List LB}, l.length = m.length → (∀ x ∈ l, oneE x = 0) → (∀ x ∈ m, oneE x = 0) → encLabs l = encLabs m → l = m
  | [], [], _, _, _, _ => rfl
  | [], _ :: _, h, _, _, _ => by simp at h
  | _ :: _, [], h, _, _, _ => by simp at h
  | x :: l, y :: m, hl, h1, h2, h => by
    unfold encLabs at h
    simp only [List.flatMap_cons] at h
    obtain ⟨hxy, h9⟩ := encLab_inj (h1 x (by simp)) (h2 y (by simp)) h
    rw [hxy, encLabs_inj (l := l) (m := m) (by simpa using hl) (fun z hz => h1 z (by simp [hz])) (fun z hz => h2 z (by simp [hz])) h9]
theorem encL_inj {l m : List LB} (hl : (rightE l).1 = 0) (hm : (rightE m).1 = 0) (h : encL l = encL m) : l = m := by
  obtain ⟨l1, l2⟩ := right_parts hl
  obtain ⟨m1, m2⟩ := right_parts hm
  unfold encL at h
  obtain ⟨e, h⟩ := uv_inj (by omega) (by omega) h
  exact encLabs_inj e l2 m2 h
theorem encL_bytes (l : List LB) : Bytes (encL l) := by
  intro x hx
  unfold encL encLabs at hx
  rcases List.mem_append.1 hx with hx | hx
  · exact uv_byte _ _ x hx
  · obtain ⟨y, _, hx⟩ := List.mem_flatMap.1 hx
    unfold encLab at hx
    simp only [List.mem_append] at hx
    rcases hx with (hx | hx) | (hx | hx)
    · exact uv_byte _ _ x hx
    · exact bytesOf_bytes _ x hx
    · exact uv_byte _ _ x hx
    · exact bytesOf_bytes _ x hx
end Go.Proofs.YtkjkkimnjpodiaaGreatDoor
/- Plain laws: the document's parting of a vector; the document's Vector. -/
set_option linter.unusedVariables false
set_option linter.unusedSimpArgs false
set_option maxRecDepth 100000
namespace Go.Proofs.YtkjkkimnjpodiaaGreatDoor
open Go.GB Go.Lib
theorem groupE_right {l : List LB} (h : (rightE l).1 = 0) (names : List ByteArray) (w : Bool) : (rightE (groupE l names w)).1 = 0 := by
  unfold groupE
  cases w
  · exact right_filter h _
  · exact right_filter h _
theorem gE_len {p : PT} (h : (rightE p.f0).1 = 0) (names : List ByteArray) (w : Bool) : (gE names w p).length ≤ 2147483648 := by
  have := (right_parts (groupE_right h names w)).1
  show (groupE p.f0 names w).length ≤ _
  omega
open Classical in
theorem part_len {names : List ByteArray} {w : Bool} {v : List PT} {gs : List GT} (h : IsParts names w v gs) (hv : ∀ p ∈ v, (rightE p.f0).1 = 0) : ∀ x ∈ gs, x.f0.length ≤ 2147483648 := fun x hx => by
  obtain ⟨h1, h2⟩ := h.part x hx
  obtain ⟨p, hp⟩ := List.exists_mem_of_ne_nil _ h2
  rw [h1] at hp
  obtain ⟨hp1, hp2⟩ := List.mem_filter.1 hp
  rw [← of_decide_eq_true hp2]
  exact gE_len (hv p hp1) names w
theorem part_small {names : List ByteArray} {w : Bool} {v : List PT} {gs : List GT} (h : IsParts names w v gs) : ∀ x ∈ gs, x.f1.length ≤ v.length := fun x hx => by
  rw [(h.part x hx).1]; exact List.length_filter_le _ _
theorem parts_step {names : List ByteArray} {w : Bool} {v : List PT} (hn : names.length < 2147483000) (hv : ∀ p ∈ v, (rightE p.f0).1 = 0) (lv : v.length ≤ 1000) {i : Nat} (hi : i < v.length) {gs : List GT} (h : IsParts names w (v.take i) gs) (hgl : gs.length ≤ i) :
    ∃ gs', tocsinref16_Parts_l28 v names w (gs, (i : Int)) = some (.inl (gs', ((i + 1 : Nat) : Int))) ∧ IsParts names w (v.take (i + 1)) gs' ∧ gs'.length ≤ i + 1 := by
  have hr := hv _ (List.getElem_mem hi)
  have hlen := part_len h (fun p hp => hv p (List.mem_of_mem_take hp))
  obtain ⟨r, s1, s2, s3, s4⟩ := seek_loop (gs := gs) (i := (i : Int)) (g := gE names w v[i]) (by omega) hlen gs.length 0 (by omega) (by omega) (fun j hj hj0 => by omega)
  rw [show ((0 : Nat) : Int) = 0 from rfl] at s1
  have htk : v.take (i + 1) = v.take i ++ [v[i]] := by rw [List.take_add_one, List.getElem?_eq_getElem hi]; rfl
  unfold tocsinref16_Parts_l28
  simp only
  rw [show decide ((i : Int) < (v.length : Int)) = true from decide_eq_true (by omega)]
  simp only [cond_true, ix_nat, List.getElem?_eq_getElem hi, Option.bind_some, refGroup_eq hr names w hn, s1, wrap_up (show i < 4294967296 by omega)]
  by_cases hrl : r < gs.length
  · rw [show decide ((r : Int) < (gs.length : Int)) = true from decide_eq_true (by omega)]
    simp only [cond_true, List.getElem?_eq_getElem hrl, Option.bind_some, refSame_eq _ _ (hlen _ (List.getElem_mem hrl))]
    by_cases hz : cmpL gs[r].f0 (gE names w v[i]) = 0
    · rw [decide_eq_true hz]
      simp only [cond_true, Option.bind_some]
      have hsm := part_small h _ (List.getElem_mem hrl)
      rw [List.length_take] at hsm
      rw [app_eq (by simp; omega)]
      simp only [Option.bind_some]
      refine ⟨gs.set r ⟨gs[r].f0, gs[r].f1 ++ [v[i]]⟩, rfl, ?_, by rw [List.length_set]; omega⟩
      rw [htk]
      exact h.more hrl (cmpL_zero hz)
    · rw [decide_eq_false hz]
      simp only [cond_false]
      have hlt : cmpL (gE names w v[i]) gs[r].f0 < 0 := by
        have h1 := s4 hrl
        have h2 := cmpL_swap gs[r].f0 (gE names w v[i])
        have h3 := cmpL_range gs[r].f0 (gE names w v[i])
        omega
      have e0 : lx gs 0 (r : Int) = some (gs.take r) := by
        unfold lx
        rw [if_pos ⟨by omega, by omega, by omega⟩]
        simp
      have e1 : lx gs (r : Int) (gs.length : Int) = some (gs.drop r) := by
        unfold lx
        rw [if_pos ⟨by omega, by omega, by omega⟩]
        simp
      rw [e0, e1]
      simp only [Option.bind_some]
      rw [app_eq (by simp; omega)]
      simp only [Option.bind_some, List.nil_append]
      rw [app_eq (by simp; omega)]
      simp only [Option.bind_some]
      rw [app_eq (by simp; omega)]
      refine ⟨_, rfl, ?_, by simp; omega⟩
      rw [htk]
      refine h.other s2 s3 (fun j hj hrj => ?_)
      by_cases e : r = j
      · subst e; exact hlt
      · exact cmpL_ltrans hlt (rise_at h.rise (by omega) hj)
  · rw [show decide ((r : Int) < (gs.length : Int)) = false from decide_eq_false (by omega)]
    simp only [cond_false, Option.bind_some]
    have hrl' : r = gs.length := by omega
    subst hrl'
    have e0 : lx gs 0 (gs.length : Int) = some (gs.take gs.length) := by
      unfold lx
      rw [if_pos ⟨by omega, by omega, by omega⟩]
      simp
    have e1 : lx gs (gs.length : Int) (gs.length : Int) = some (gs.drop gs.length) := by
      unfold lx
      rw [if_pos ⟨by omega, by omega, by omega⟩]
      simp
    rw [e0, e1]
    simp only [Option.bind_some]
    rw [app_eq (by simp; omega)]
    simp only [Option.bind_some, List.nil_append]
    rw [app_eq (by simp; omega)]
    simp only [Option.bind_some]
    rw [app_eq (by simp; omega)]
    refine ⟨_, rfl, ?_, by simp; omega⟩
    rw [htk]
    exact h.other (Nat.le_refl _) s3 (fun j hj hrj => by omega)
theorem parts_loop {names : List ByteArray} {w : Bool} {v : List PT} (hn : names.length < 2147483000) (hv : ∀ p ∈ v, (rightE p.f0).1 = 0) (lv : v.length ≤ 1000) : ∀ (d i : Nat) (gs : List GT), v.length - i = d → i ≤ v.length → IsParts names w (v.take i) gs → gs.length ≤ i →
    ∃ gs', loopO (tocsinref16_Parts_l28 v names w) (gs, (i : Int)) = some gs' ∧ IsParts names w v gs' ∧ gs'.length ≤ v.length := by
  intro d
  induction d with
  | zero =>
    intro i gs hd hi h hgl
    have e : i = v.length := by omega
    subst e
    rw [List.take_length] at h
    refine ⟨gs, loopO_done ?_, h, hgl⟩
    unfold tocsinref16_Parts_l28
    simp only
    rw [show decide ((v.length : Int) < (v.length : Int)) = false from decide_eq_false (by omega)]; rfl
  | succ d ih =>
    intro i gs hd hi h hgl
    obtain ⟨gs1, h1, h2, h5⟩ := parts_step hn hv lv (show i < v.length by omega) h hgl
    obtain ⟨gs2, h3, h4⟩ := ih (i + 1) gs1 (by omega) (by omega) h2 h5
    exact ⟨gs2, by rw [loopO_step h1]; exact h3, h4⟩
theorem Parts_eq {names : List ByteArray} {w : Bool} {v : List PT} (hn : names.length < 2147483000) (hv : ∀ p ∈ v, (rightE p.f0).1 = 0) (lv : v.length ≤ 1000) : ∃ gs, tocsinref16_Parts v names w = some gs ∧ IsParts names w v gs ∧ gs.length ≤ v.length := by
  obtain ⟨gs, h1, h2⟩ := parts_loop (w := w) hn hv lv v.length 0 [] (by omega) (by omega) (by rw [List.take_zero]; exact IsParts.nil _ _) (by simp)
  refine ⟨gs, ?_, h2⟩
  unfold tocsinref16_Parts
  rw [show (([], 0) : List GT × Int) = ([], ((0 : Nat) : Int)) from rfl, h1]; rfl
end Go.Proofs.YtkjkkimnjpodiaaGreatDoor
/- Plain laws: the document's Vector. -/
set_option linter.unusedVariables false
set_option linter.unusedSimpArgs false
set_option maxRecDepth 100000
namespace Go.Proofs.YtkjkkimnjpodiaaGreatDoor
open Go.GB Go.Lib
abbrev UpV (l : List PT) : Prop := l.Pairwise fun x y => ¬ cmpP y x < 0
theorem vplace_loop {l s : List PT} {b : Bool} {i : Nat} (hi : i < l.length) (hs : s.length < 2147483648) (hl : ∀ x ∈ s, x.f0.length ≤ 2147483648) : ∀ k : Nat, k ≤ s.length → (∀ j (h : j < s.length), k ≤ j → 0 < cmpP s[j] l[i]) →
    ∃ r : Nat, loopO (tocsinref15_Vector_l88 l (s, b, (i : Int))) (k : Int) = some (r : Int) ∧ r ≤ s.length ∧ (∀ j (h : j < s.length), r ≤ j → 0 < cmpP s[j] l[i]) ∧ (∀ h : 0 < r, ∀ h' : r - 1 < s.length, ¬ 0 < cmpP s[r - 1] l[i])
  | 0, hk, h => by
    refine ⟨0, ?_, by omega, h, fun h => by omega⟩
    refine loopO_done ?_
    unfold tocsinref15_Vector_l88
    rfl
  | k + 1, hk, h => by
    have hw : IntKind.wrap .i64 (((k + 1 : Nat) : Int) - 1) = (k : Int) := by rw [wrap64 (by omega) (by omega)]; omega
    have hkl : k < s.length := by omega
    have hb : tocsinref15_Vector_l88 l (s, b, (i : Int)) ((k + 1 : Nat) : Int) = some (bif decide (0 < cmpP s[k] l[i]) then .inl (k : Int) else .inr ((k + 1 : Nat) : Int)) := by
      unfold tocsinref15_Vector_l88
      rw [show decide (((k + 1 : Nat) : Int) > 0) = true from decide_eq_true (by omega)]
      simp only [cond_true, hw, ix_nat, List.getElem?_eq_getElem hi, List.getElem?_eq_getElem hkl, Option.bind_some, refCompare_eq _ _ (hl _ (List.getElem_mem hkl))]
      show (bif decide (0 < cmpP s[k] l[i]) then some (Sum.inl (k : Int)) else some (Sum.inr ((k + 1 : Nat) : Int))) = _
      cases decide (0 < cmpP s[k] l[i]) <;> rfl
    by_cases hlt : 0 < cmpP s[k] l[i]
    · rw [decide_eq_true hlt] at hb
      obtain ⟨r, h1, h2, h3, h4⟩ := vplace_loop hi hs hl k (by omega) (fun j hj hkj => by
        by_cases e : j = k
        · subst e; exact hlt
        · exact h j hj (by omega))
      exact ⟨r, by rw [loopO_step hb]; exact h1, h2, h3, h4⟩
    · rw [decide_eq_false hlt] at hb
      exact ⟨k + 1, loopO_done hb, hk, h, fun _ _ => hlt⟩
theorem vput_up {s : List PT} (hs : UpV s) {x : PT} {r : Nat} (h2 : r ≤ s.length) (h3 : ∀ j (h : j < s.length), r ≤ j → 0 < cmpP s[j] x) (h4 : ∀ h : 0 < r, ∀ h' : r - 1 < s.length, ¬ 0 < cmpP s[r - 1] x) :
    UpV (s.take r ++ [x] ++ s.drop r) ∧ ∀ j (h : j < s.length), j < r → ¬ 0 < cmpP s[j] x := by
  have low : ∀ j (h : j < s.length), j < r → ¬ cmpP x s[j] < 0 := fun j hj hjr => by
    have h5 := h4 (by omega) (by omega)
    have h6 : ¬ cmpP x s[r - 1] < 0 := by have := cmpP_swap s[r - 1] x; omega
    by_cases e : j = r - 1
    · subst e; exact h6
    · exact cmpP_ntrans h6 (List.pairwise_iff_getElem.1 hs j (r - 1) (by omega) (by omega) (by omega))
  have hd : ∀ b ∈ s.drop r, ¬ cmpP b x < 0 := fun b hb => by
    obtain ⟨j, hj, e⟩ := List.mem_iff_getElem.1 hb
    rw [List.getElem_drop] at e
    rw [List.length_drop] at hj
    have := h3 (r + j) (by omega) (by omega)
    rw [← e]; omega
  have ht : ∀ a ∈ s.take r, ¬ cmpP x a < 0 := fun a ha => by
    obtain ⟨j, hj, e⟩ := List.mem_iff_getElem.1 ha
    rw [List.getElem_take] at e
    rw [List.length_take] at hj
    rw [← e]; exact low j (by omega) (by omega)
  refine ⟨List.pairwise_append.2 ⟨List.pairwise_append.2 ⟨hs.sublist (List.take_sublist _ _), List.pairwise_singleton _ _, fun a ha b hb => ?_⟩, hs.sublist (List.drop_sublist _ _), fun a ha b hb => ?_⟩, fun j hj hjr => by have := low j hj hjr; have := cmpP_swap s[j] x; omega⟩
  · rw [List.mem_singleton.1 hb]; exact ht a ha
  · rcases List.mem_append.1 ha with h | h
    · exact cmpP_ntrans (hd b hb) (ht a h)
    · rw [List.mem_singleton.1 h]; exact hd b hb
theorem dist_snoc {l : List PT} {x : PT} : DistP (l ++ [x]) ↔ DistP l ∧ ∀ y ∈ l, y.f0 ≠ x.f0 := by
  unfold DistP
  rw [List.pairwise_append]
  constructor
  · rintro ⟨h1, _, h3⟩; exact ⟨h1, fun y hy e => h3 y hy x (by simp) e⟩
  · rintro ⟨h1, h2⟩; exact ⟨h1, List.pairwise_singleton _ _, fun y hy z hz e => by simp at hz; subst hz; exact h2 y hy e⟩
theorem ownL_eq (l : List LB) (h : l.length ≤ 2147483648) : tocsinref09_Own l = some l := by
  unfold tocsinref09_Own
  rw [app_eq (by simpa using h)]; rfl
open Classical in
theorem vec_loop {l : List PT} (hr : ∀ p ∈ l, (rightE p.f0).1 = 0) (ll : l.length ≤ 1000) : ∀ (d i : Nat) (s : List PT), l.length - i = d → i ≤ l.length → s.Perm (l.take i) → UpV s →
    ∃ z, loopO (tocsinref15_Vector_l70 l) (s, decide (¬ DistP (l.take i)), (i : Int)) = some (z, decide (¬ DistP l)) ∧ z.Perm l ∧ UpV z := by
  have hlen : ∀ p ∈ l, p.f0.length ≤ 2147483648 := fun p hp => by have := (right_parts (hr p hp)).1; omega
  intro d
  induction d with
  | zero =>
    intro i s hd hi hp hs
    have e : i = l.length := by omega
    subst e
    rw [List.take_length] at hp ⊢
    refine ⟨s, loopO_done ?_, hp, hs⟩
    unfold tocsinref15_Vector_l70
    simp only
    rw [show decide ((l.length : Int) < (l.length : Int)) = false from decide_eq_false (by omega)]; rfl
  | succ d ih =>
    intro i s hd hi hp hs
    have hlt : i < l.length := by omega
    have hsl : s.length = i := by rw [hp.length_eq, List.length_take]; omega
    have hsm : ∀ x ∈ s, x ∈ l := fun x hx => List.mem_of_mem_take (hp.mem_iff.1 hx)
    obtain ⟨r, h1, h2, h3, h4⟩ := vplace_loop (l := l) (s := s) (b := decide (¬ DistP (l.take i))) hlt (by omega) (fun x hx => hlen x (hsm x hx)) s.length (Nat.le_refl _) (fun j h k => by omega)
    obtain ⟨up, low⟩ := vput_up hs h2 h3 h4
    have htk : l.take (i + 1) = l.take i ++ [l[i]] := by rw [List.take_add_one, List.getElem?_eq_getElem hlt]; rfl
    -- is one of its labels there?
    have hdup : (bif decide (¬ DistP (l.take i)) then some true else (bif (decide ((r : Int) > 0)) then (Option.bind (ix s (IntKind.wrap .i64 ((r : Int) - 1))) fun (x133 : PT) => Option.bind (ix l (i : Int)) fun (x147 : PT) => Option.bind (tocsinref04_Same x133.f0 x147.f0) fun (y160 : Bool) => some y160) else (some false))) = some (decide (¬ DistP (l.take (i + 1)))) := by
      by_cases hD : DistP (l.take i)
      · rw [decide_eq_false (not_not.2 hD)]
        simp only [cond_false]
        by_cases hr0 : 0 < r
        · rw [show decide ((r : Int) > 0) = true from decide_eq_true (by omega), show IntKind.wrap .i64 ((r : Int) - 1) = ((r - 1 : Nat) : Int) by rw [wrap64 (by omega) (by omega)]; omega]
          have hr1 : r - 1 < s.length := by omega
          simp only [cond_true, ix_nat, List.getElem?_eq_getElem hr1, List.getElem?_eq_getElem hlt, Option.bind_some, refSame_eq _ _ (hlen _ (hsm _ (List.getElem_mem hr1)))]
          congr 1
          refine decide_eq_decide.2 ?_
          rw [htk, dist_snoc]
          constructor
          · intro hz h
            exact h.2 _ (hp.mem_iff.1 (List.getElem_mem hr1)) (cmpL_zero hz)
          · intro h
            by_cases hz : cmpL s[r - 1].f0 l[i].f0 = 0
            · exact hz
            · exfalso
              refine h ⟨hD, fun y hy e => ?_⟩
              obtain ⟨j, hj, rfl⟩ := List.mem_iff_getElem.1 (hp.mem_iff.2 hy)
              have e0 : cmpP s[j] l[i] = 0 := by show cmpL s[j].f0 l[i].f0 = 0; rw [e, cmpL_self]
              have hjr : j < r := by
                rcases Nat.lt_or_ge j r with h | h
                · exact h
                · have := h3 j hj h; omega
              have hn := low (r - 1) hr1 (by omega)
              have hlt2 : cmpP s[r - 1] l[i] < 0 := by
                have : cmpP s[r - 1] l[i] ≠ 0 := hz
                omega
              by_cases ej : j = r - 1
              · subst ej; omega
              · have hu := List.pairwise_iff_getElem.1 hs j (r - 1) hj hr1 (by omega)
                have : s[j].f0 = l[i].f0 := e
                have : cmpP s[r - 1] s[j] < 0 := by show cmpL s[r - 1].f0 s[j].f0 < 0; rw [this]; exact hlt2
                exact hu this
        · rw [show decide ((r : Int) > 0) = false from decide_eq_false (by omega)]
          simp only [cond_false, Option.bind_some]
          congr 1
          symm
          refine decide_eq_false (not_not.2 ?_)
          rw [htk, dist_snoc]
          refine ⟨hD, fun y hy e => ?_⟩
          obtain ⟨j, hj, rfl⟩ := List.mem_iff_getElem.1 (hp.mem_iff.2 hy)
          have := h3 j hj (by omega)
          have e0 : cmpP s[j] l[i] = 0 := by show cmpL s[j].f0 l[i].f0 = 0; rw [e, cmpL_self]
          omega
      · rw [decide_eq_true hD]
        simp only [cond_true, Option.bind_some]
        congr 1
        symm
        refine decide_eq_true fun h => hD ?_
        rw [htk, dist_snoc] at h
        exact h.1
    have hb : tocsinref15_Vector_l70 l (s, decide (¬ DistP (l.take i)), (i : Int)) = some (.inl (s.take r ++ [l[i]] ++ s.drop r, decide (¬ DistP (l.take (i + 1))), ((i + 1 : Nat) : Int))) := by
      unfold tocsinref15_Vector_l70
      simp only
      rw [show decide ((i : Int) < (l.length : Int)) = true from decide_eq_true (by omega)]
      simp only [cond_true, h1, Option.bind_some]
      rw [hdup]
      have e0 : lx s 0 (r : Int) = some (s.take r) := by
        unfold lx
        rw [if_pos ⟨by omega, by omega, by omega⟩]
        simp
      have e1 : lx s (r : Int) (s.length : Int) = some (s.drop r) := by
        unfold lx
        rw [if_pos ⟨by omega, by omega, by omega⟩]
        simp
      simp only [Option.bind_some, e0, e1, ix_nat, List.getElem?_eq_getElem hlt, wrap_up (show i < 4294967296 by omega)]
      rw [app_eq (by simp; omega)]
      simp only [Option.bind_some, List.nil_append]
      rw [ownL_eq _ (hlen _ (List.getElem_mem hlt))]
      simp only [Option.bind_some]
      rw [app_eq (by simp; omega)]
      simp only [Option.bind_some]
      rw [app_eq (by simp; omega)]
      rfl
    obtain ⟨z, g1, g2, g3⟩ := ih (i + 1) (s.take r ++ [l[i]] ++ s.drop r) (by omega) (by omega) (by
      rw [htk]
      refine List.Perm.trans ?_ (hp.append_right _)
      have e2 : (s.take r ++ [l[i]] ++ s.drop r).Perm (s.take r ++ s.drop r ++ [l[i]]) := by
        rw [List.append_assoc, List.append_assoc]
        exact List.Perm.append_left _ List.perm_append_comm
      rw [List.take_append_drop] at e2
      exact e2) up
    exact ⟨z, by rw [loopO_step hb]; exact g1, g2, g3⟩
open Classical in
theorem refVector_eq (l : List PT) : tocsinref15_Vector l = some (vecE l) := by
  unfold tocsinref15_Vector vecE
  by_cases h0 : l.length > 1000
  · rw [show decide ((l.length : Int) > 1000) = true from decide_eq_true (by omega), if_pos h0]; rfl
  rw [show decide ((l.length : Int) > 1000) = false from decide_eq_false (by omega), if_neg h0]
  simp only [cond_false]
  rw [up_any (n := l.length) (fun j => (l[j]?).any fun p => (rightE p.f0).1 != 0) (([], 41) : List PT × Int) (fun j hj => ?_) ?_, any_range]
  · cases ha : l.any fun p => (rightE p.f0).1 != 0 with
    | true => rfl
    | false =>
      simp only [cond_false, Option.bind_some, Bool.false_eq_true, if_false]
      have hr : ∀ p ∈ l, (rightE p.f0).1 = 0 := all_right (by rw [ha]; simp)
      obtain ⟨z, g1, g2, g3⟩ := vec_loop hr (by omega) l.length 0 [] (by omega) (by omega) (by rw [List.take_zero]) .nil
      rw [List.take_zero, decide_eq_false (show ¬ ¬ DistP ([] : List PT) from fun h => h .nil)] at g1
      rw [show (([], false, 0) : List PT × Bool × Int) = ([], false, ((0 : Nat) : Int)) from rfl, g1]
      simp only [Option.bind_some]
      by_cases hD : DistP l
      · rw [decide_eq_false (not_not.2 hD), if_pos hD, sorted_unique hD g2 (vsort_perm l) g3 (vsort_sorted l)]; rfl
      · rw [decide_eq_true hD, if_neg hD]; rfl
  · unfold tocsinref15_Vector_l18
    rw [show decide ((l.length : Int) < (l.length : Int)) = false from decide_eq_false (by omega)]; rfl
  · unfold tocsinref15_Vector_l18
    rw [show decide ((j : Int) < (l.length : Int)) = true from decide_eq_true (by omega)]
    simp only [cond_true, ix_nat, List.getElem?_eq_getElem hj, Option.bind_some, wrap_up (show j < 4294967296 by omega), refRight_eq, Option.any_some]
    cases (rightE l[j].f0).1 != 0 <;> rfl
end Go.Proofs.YtkjkkimnjpodiaaGreatDoor
/- Plain laws: the program's groups are the document's. -/
set_option linter.unusedVariables false
set_option linter.unusedSimpArgs false
set_option maxRecDepth 100000
namespace Go.Proofs.YtkjkkimnjpodiaaGreatDoor
open Go.GB Go.Lib
noncomputable def kb (g : List LB) : ByteArray := ofBytes (encL g)
theorem kb_inj {g h : List LB} (hg : (rightE g).1 = 0) (hh : (rightE h).1 = 0) (e : kb g = kb h) : g = h := by
  refine encL_inj hg hh ?_
  unfold kb at e
  rw [← bytesOf_ofBytes (encL_bytes g), e, bytesOf_ofBytes (encL_bytes h)]
open Classical in
structure GInv (names : List ByteArray) (w : Bool) (v : List PT) (i : Nat) (keys : List (List LB)) (at_ : List (ByteArray × Int)) (out : List (List PT)) : Prop where
  len : out.length = keys.length
  le : keys.length ≤ i
  nd : keys.Nodup
  right : ∀ k ∈ keys, (rightE k).1 = 0
  val : ∀ j (h : j < keys.length) (h' : j < out.length), out[j] = (v.take i).filter (fun p => decide (gE names w p = keys[j])) ∧ out[j] ≠ []
  cov : ∀ p ∈ v.take i, gE names w p ∈ keys
  fwd : ∀ j (h : j < keys.length), mget Ky.str at_ (kb keys[j]) = some (j : Int)
  bwd : ∀ k x, mget Ky.str at_ k = some x → ∃ j, ∃ h : j < keys.length, k = kb keys[j] ∧ x = (j : Int)
open Classical in
theorem ginv_step {names : List ByteArray} {w : Bool} {v : List PT} (hn : names.length < 2147483000) (hv : ∀ p ∈ v, (rightE p.f0).1 = 0) (lv : v.length ≤ 1000) {i : Nat} (hi : i < v.length) {keys : List (List LB)} {at_ : List (ByteArray × Int)} {out : List (List PT)} {e : Int}
    (h : GInv names w v i keys at_ out) : ∃ keys' at' out', aggr_Groups_l61 names w (v, e) (keys, at_, out, (i : Int)) = some (.inl (keys', at', out', ((i + 1 : Nat) : Int))) ∧ GInv names w v (i + 1) keys' at' out' := by
  have hr := hv _ (List.getElem_mem hi)
  have hgr := groupE_right hr names w
  have hle := h.le
  have hlen := h.len
  have htk : v.take (i + 1) = v.take i ++ [v[i]] := by rw [List.take_add_one, List.getElem?_eq_getElem hi]; rfl
  unfold aggr_Groups_l61
  simp only
  rw [show decide ((i : Int) < (v.length : Int)) = true from decide_eq_true (by omega)]
  simp only [cond_true, ix_nat, List.getElem?_eq_getElem hi, Option.bind_some, group_eq hr names w hn, wrap_up (show i < 4294967296 by omega)]
  rw [Put_eq (by simp), if_pos hgr]
  simp only [Option.bind_some, List.nil_append]
  rw [show ofBytes (encL (groupE v[i].f0 names w)) = kb (gE names w v[i]) from rfl]
  generalize hg : gE names w v[i] = g at *
  have hgr' : (rightE g).1 = 0 := by rw [← hg]; exact hgr
  cases hm : mget Ky.str at_ (kb g) with
  | some x =>
    obtain ⟨j, hj, e1, e2⟩ := h.bwd _ _ hm
    have hgk : g = keys[j] := kb_inj hgr' (h.right _ (List.getElem_mem hj)) e1
    subst e2
    have hjo : j < out.length := by omega
    simp only [Option.isSome_some, Bool.not_true, cond_false, Option.getD_some, Option.bind_some, ix_nat, List.getElem?_eq_getElem hjo]
    obtain ⟨v1, v2⟩ := h.val j hj hjo
    have hsm : out[j].length ≤ 1000 := by rw [v1]; have := List.length_filter_le (fun p => decide (gE names w p = keys[j])) (v.take i); rw [List.length_take] at this; omega
    rw [app_eq (by simp; omega)]
    refine ⟨keys, at_, out.set j (out[j] ++ [v[i]]), rfl, ⟨by rw [List.length_set]; exact hlen, by omega, h.nd, h.right, fun m hm1 hm2 => ?_, fun p hp => ?_, h.fwd, h.bwd⟩⟩
    · rw [List.length_set] at hm2
      rw [List.getElem_set]
      obtain ⟨w1, w2⟩ := h.val m hm1 hm2
      by_cases ejm : j = m
      · subst ejm
        rw [if_pos rfl, htk, List.filter_append, ← v1]
        refine ⟨?_, by simp⟩
        simp [hg, hgk]
      · rw [if_neg ejm, htk, List.filter_append, ← w1]
        refine ⟨?_, w2⟩
        have : gE names w v[i] ≠ keys[m] := fun e3 => by
          rw [hg, hgk] at e3
          exact ejm ((List.getElem_inj h.nd).1 e3)
        simp [this]
    · rw [htk] at hp
      rcases List.mem_append.1 hp with hp | hp
      · exact h.cov p hp
      · rw [List.mem_singleton.1 hp, hg, hgk]; exact List.getElem_mem hj
  | none =>
    have hnk : g ∉ keys := fun hmem => by
      obtain ⟨j, hj, e1⟩ := List.mem_iff_getElem.1 hmem
      have := h.fwd j hj
      rw [e1, hm] at this; cases this
    simp only [Option.isSome_none, Bool.not_false, cond_true]
    rw [app_eq (by simp; omega), app_eq (by simp; omega)]
    simp only [Option.bind_some]
    rw [ix_nat, List.getElem?_append_right (Nat.le_refl _), Nat.sub_self]
    simp only [List.getElem?_cons_zero, Option.bind_some]
    rw [app_eq (by simp)]
    simp only [Option.bind_some, List.nil_append]
    have hls : lset (out ++ [[]]) (out.length : Int) [v[i]] = out ++ [[v[i]]] := by
      unfold lset
      rw [show ((out.length : Int)).toNat = out.length by omega, List.set_append_right _ _ (Nat.le_refl _), Nat.sub_self]; rfl
    rw [hls]
    refine ⟨keys ++ [g], mput Ky.str at_ (kb g) (out.length : Int), out ++ [[v[i]]], by rw [show groupE v[i].f0 names w = g from hg], ⟨by simp [hlen], by simp; omega, ?_, fun k hk => ?_, fun m hm1 hm2 => ?_, fun p hp => ?_, fun m hm1 => ?_, fun k x hk => ?_⟩⟩
    · rw [List.nodup_append]
      exact ⟨h.nd, by simp, fun a ha b hb e => hnk (by simp at hb; rw [← hb, ← e]; exact ha)⟩
    · rcases List.mem_append.1 hk with hk | hk
      · exact h.right k hk
      · rw [List.mem_singleton.1 hk]; exact hgr'
    · rw [List.length_append] at hm1 hm2
      by_cases hmk : m < keys.length
      · obtain ⟨w1, w2⟩ := h.val m hmk (by omega)
        rw [List.getElem_append_left (by omega), List.getElem_append_left hmk, htk, List.filter_append, ← w1]
        refine ⟨?_, w2⟩
        have : gE names w v[i] ≠ keys[m] := fun e3 => hnk (by rw [← hg, e3]; exact List.getElem_mem hmk)
        simp [this]
      · have em : m = keys.length := by simp at hm1; omega
        subst em
        rw [List.getElem_append_right (by omega), List.getElem_append_right (Nat.le_refl _)]
        simp only [hlen, Nat.sub_self, List.getElem_cons_zero]
        refine ⟨?_, by simp⟩
        have hv0 : (v.take i).filter (fun p => decide (gE names w p = g)) = [] := by
          rw [List.filter_eq_nil_iff]
          intro q hq hdec
          exact hnk (by rw [← of_decide_eq_true hdec]; exact h.cov q hq)
        rw [htk, List.filter_append, hv0]
        simp [hg]
    · rw [htk] at hp
      rcases List.mem_append.1 hp with hp | hp
      · exact List.mem_append_left _ (h.cov p hp)
      · rw [List.mem_singleton.1 hp, hg]; simp
    · rw [List.length_append] at hm1
      rw [mget_mput]
      by_cases hmk : m < keys.length
      · rw [List.getElem_append_left hmk]
        have hne : Ky.str.beq (kb keys[m]) (kb g) = false := by
          cases hb : Ky.str.beq (kb keys[m]) (kb g) with
          | false => rfl
          | true => exact absurd (by rw [← kb_inj (h.right _ (List.getElem_mem hmk)) hgr' ((strBeq _ _).1 hb)]; exact List.getElem_mem hmk) hnk
        rw [hne]; exact h.fwd m hmk
      · have em : m = keys.length := by simp at hm1; omega
        subst em
        rw [List.getElem_append_right (Nat.le_refl _)]
        simp only [Nat.sub_self, List.getElem_cons_zero]
        rw [(strBeq _ _).2 rfl, hlen]; rfl
    · rw [mget_mput] at hk
      cases hb : Ky.str.beq k (kb g) with
      | true =>
        rw [hb] at hk
        simp only [cond_true, Option.some.injEq] at hk
        refine ⟨keys.length, by simp, ?_, by rw [← hk, hlen]⟩
        rw [List.getElem_append_right (Nat.le_refl _)]
        simp only [Nat.sub_self, List.getElem_cons_zero]
        exact (strBeq _ _).1 hb
      | false =>
        rw [hb] at hk
        obtain ⟨j, hj, q1, q2⟩ := h.bwd k x hk
        refine ⟨j, by simp; omega, ?_, q2⟩
        rw [List.getElem_append_left hj]; exact q1
theorem ginv_loop {names : List ByteArray} {w : Bool} {v : List PT} {e : Int} (hn : names.length < 2147483000) (hv : ∀ p ∈ v, (rightE p.f0).1 = 0) (lv : v.length ≤ 1000) : ∀ (d i : Nat) (keys : List (List LB)) (at_ : List (ByteArray × Int)) (out : List (List PT)), v.length - i = d → i ≤ v.length → GInv names w v i keys at_ out →
    ∃ keys' at' out', loopO (aggr_Groups_l61 names w (v, e)) (keys, at_, out, (i : Int)) = some (out', keys') ∧ GInv names w v v.length keys' at' out' := by
  intro d
  induction d with
  | zero =>
    intro i keys at_ out hd hi h
    have ei : i = v.length := by omega
    subst ei
    refine ⟨keys, at_, out, loopO_done ?_, h⟩
    unfold aggr_Groups_l61
    simp only
    rw [show decide ((v.length : Int) < (v.length : Int)) = false from decide_eq_false (by omega)]; rfl
  | succ d ih =>
    intro i keys at_ out hd hi h
    obtain ⟨k1, a1, o1, h1, h2⟩ := ginv_step (e := e) hn hv lv (show i < v.length by omega) h
    obtain ⟨k2, a2, o2, h3, h4⟩ := ih (i + 1) k1 a1 o1 (by omega) (by omega) h2
    exact ⟨k2, a2, o2, by rw [loopO_step h1]; exact h3, h4⟩
end Go.Proofs.YtkjkkimnjpodiaaGreatDoor
/- Plain laws: the program's groups, in order. -/
set_option linter.unusedVariables false
set_option linter.unusedSimpArgs false
set_option maxRecDepth 100000
namespace Go.Proofs.YtkjkkimnjpodiaaGreatDoor
open Go.GB Go.Lib
def ordN (n : Nat) : List Int := (List.range n).map fun (i : Nat) => (i : Int)
theorem ordN_len (n : Nat) : (ordN n).length = n := by unfold ordN; simp
theorem mem_ordN {n : Nat} {a : Int} (h : a ∈ ordN n) : ∃ i : Nat, a = i ∧ i < n := by
  unfold ordN at h
  obtain ⟨i, hi, e⟩ := List.mem_map.1 h
  exact ⟨i, e.symm, List.mem_range.1 hi⟩
theorem ord_loop {n : Nat} (hn : n ≤ 2147483648) {xs : List Int} (hxl : xs.length = n) : loopO (aggr_Groups_l198 xs) (xs, 0) = some (ordN n) := by
  have := up_inv (body := aggr_Groups_l198 xs) (fun k => (ordN k ++ xs.drop k, (k : Int))) (n := n) (r := ordN n) (fun k hk => by
      unfold aggr_Groups_l198
      simp only
      rw [show decide ((k : Int) < (xs.length : Int)) = true from decide_eq_true (by omega)]
      have hkx : k < xs.length := by omega
      have hg : (ordN k ++ xs.drop k)[k]? = some xs[k] := by
        rw [List.getElem?_append_right (by rw [ordN_len]; exact Nat.le_refl _), ordN_len, Nat.sub_self, List.getElem?_drop, Nat.add_zero, List.getElem?_eq_getElem hkx]
      simp only [cond_true, ix_nat, hg, Option.bind_some, wrap_up (show k < 4294967296 by omega)]
      have hls : lset (ordN k ++ xs.drop k) (k : Int) (k : Int) = ordN (k + 1) ++ xs.drop (k + 1) := by
        unfold lset
        rw [show ((k : Int)).toNat = k by omega, List.set_append_right _ _ (by rw [ordN_len]; exact Nat.le_refl _), ordN_len, Nat.sub_self, List.drop_eq_getElem_cons hkx, List.set_cons_zero]
        unfold ordN
        rw [List.range_succ, List.map_append, List.append_assoc]; rfl
      rw [hls])
    (by
      unfold aggr_Groups_l198
      simp only
      rw [show decide ((n : Int) < (xs.length : Int)) = false from decide_eq_false (by omega)]
      rw [List.drop_eq_nil_of_le (by omega), List.append_nil]; rfl) 0 (by omega)
  rw [show (ordN 0 ++ xs.drop 0, ((0 : Nat) : Int)) = (xs, (0 : Int)) from rfl] at this
  exact this
noncomputable def kOrd (keys : List (List LB)) (a b : Int) : Int := cmpL (keys.getD a.toNat []) (keys.getD b.toNat [])
theorem kOrd_swo (keys : List (List LB)) : Go.Sort.SWO (fun a b => decide (kOrd keys a b < 0)) :=
  ⟨fun x => by simp [kOrd, cmpL_self], fun x y z h k => by
    simp only [decide_eq_true_eq] at *
    exact cmpL_ltrans h k, fun x y z h k => by
    simp only [decide_eq_false_iff_not] at *
    exact cmpP_ntrans (x := ⟨keys.getD x.toNat [], none⟩) (y := ⟨keys.getD y.toNat [], none⟩) (z := ⟨keys.getD z.toNat [], none⟩) h k⟩
theorem cmp_ord {keys : List (List LB)} (hr : ∀ k ∈ keys, (rightE k).1 = 0) : ∀ x ∈ ordN keys.length, ∀ y ∈ ordN keys.length, aggr_Groups_1 x y keys = some (kOrd keys x y) := fun x hx y hy => by
  obtain ⟨i, rfl, hi⟩ := mem_ordN hx
  obtain ⟨j, rfl, hj⟩ := mem_ordN hy
  unfold aggr_Groups_1 kOrd
  have hl := (right_parts (hr _ (List.getElem_mem hi))).1
  have hl2 := (right_parts (hr _ (List.getElem_mem hj))).1
  simp only [ix_nat, List.getElem?_eq_getElem hi, List.getElem?_eq_getElem hj, Option.bind_some]
  rw [compare_eq _ _ (by omega)]
  simp only [Option.bind_some, Int.toNat_natCast, List.getD_eq_getElem?_getD, List.getElem?_eq_getElem hi, List.getElem?_eq_getElem hj, Option.getD_some]
theorem pick_loop {n : Nat} (hn : n ≤ 1000) {out : List (List PT)} {keys : List (List LB)} (ho : out.length = n) {r : List Int} (hr : r.Perm (ordN n)) :
    loopO (aggr_Groups_l270 (out, keys) r) ([], 0) = some (r.map fun a => out.getD a.toNat []) := by
  have hrl : r.length = n := by rw [hr.length_eq, ordN_len]
  have := up_inv (body := aggr_Groups_l270 (out, keys) r) (fun k => ((r.take k).map (fun a => out.getD a.toNat []), (k : Int))) (n := r.length) (r := r.map fun a => out.getD a.toNat []) (fun k hk => by
      unfold aggr_Groups_l270
      simp only
      rw [show decide ((k : Int) < (r.length : Int)) = true from decide_eq_true (by omega)]
      obtain ⟨i, e, hi⟩ := mem_ordN (hr.mem_iff.1 (List.getElem_mem hk))
      have hio : i < out.length := by omega
      simp only [cond_true, ix_nat, List.getElem?_eq_getElem hk, Option.bind_some, wrap_up (show k < 4294967296 by omega)]
      rw [e, ix_nat, List.getElem?_eq_getElem hio]
      simp only [Option.bind_some]
      rw [app_eq (by simp; omega)]
      simp only [Option.bind_some]
      rw [List.take_add_one, List.getElem?_eq_getElem hk, List.map_append]
      simp only [Option.toList_some, List.map_cons, List.map_nil, e, Int.toNat_natCast, List.getD_eq_getElem?_getD, List.getElem?_eq_getElem hio, Option.getD_some])
    (by
      unfold aggr_Groups_l270
      simp only
      rw [show decide ((r.length : Int) < (r.length : Int)) = false from decide_eq_false (by omega), List.take_length]; rfl) 0 (by omega)
  rw [List.take_zero] at this
  exact this
open Classical in
theorem ginv_parts {names : List ByteArray} {w : Bool} {v : List PT} {keys : List (List LB)} {at_ : List (ByteArray × Int)} {out : List (List PT)} (h : GInv names w v v.length keys at_ out) {r : List Int} (hr : r.Perm (ordN keys.length)) (hs : r.Pairwise fun x y => ¬ kOrd keys y x < 0) :
    IsParts names w v (r.map fun a => (⟨keys.getD a.toNat [], out.getD a.toNat []⟩ : GT)) := by
  have hlen := h.len
  have nd : r.Nodup := hr.nodup_iff.2 (by
    unfold ordN
    exact List.pairwise_map.2 (List.nodup_range.imp fun {a b} hab e => hab (by omega)))
  refine ⟨List.pairwise_map.2 ?_, fun x hx => ?_, fun p hp => ?_⟩
  · refine (List.Pairwise.and nd hs).imp_of_mem fun {a b} ha hb hab => ?_
    obtain ⟨i, rfl, hi⟩ := mem_ordN (hr.mem_iff.1 ha)
    obtain ⟨j, rfl, hj⟩ := mem_ordN (hr.mem_iff.1 hb)
    have h2 := hab.2
    unfold kOrd at h2
    simp only [Int.toNat_natCast, List.getD_eq_getElem?_getD, List.getElem?_eq_getElem hi, List.getElem?_eq_getElem hj, Option.getD_some] at h2 ⊢
    have h3 := cmpL_swap keys[i] keys[j]
    have h4 : cmpL keys[i] keys[j] ≠ 0 := fun e => hab.1 (by
      have := (List.getElem_inj h.nd).1 (cmpL_zero e)
      rw [this])
    omega
  · obtain ⟨a, ha, rfl⟩ := List.mem_map.1 hx
    obtain ⟨i, rfl, hi⟩ := mem_ordN (hr.mem_iff.1 ha)
    have hio : i < out.length := by omega
    have := h.val i hi hio
    rw [List.take_length] at this
    simp only [Int.toNat_natCast, List.getD_eq_getElem?_getD, List.getElem?_eq_getElem hi, List.getElem?_eq_getElem hio, Option.getD_some]
    exact this
  · have hc := h.cov p (by rw [List.take_length]; exact hp)
    obtain ⟨j, hj, e⟩ := List.mem_iff_getElem.1 hc
    have hjm : (j : Int) ∈ r := hr.mem_iff.2 (by unfold ordN; exact List.mem_map.2 ⟨j, List.mem_range.2 hj, rfl⟩)
    refine ⟨_, List.mem_map.2 ⟨_, hjm, rfl⟩, ?_⟩
    simp only [Int.toNat_natCast, List.getD_eq_getElem?_getD, List.getElem?_eq_getElem hj, Option.getD_some]
    exact e
open Classical in
theorem Groups_both {l : List PT} {names : List ByteArray} {w : Bool} (hn : names.length < 2147483000) : ∃ gs e, aggr_Groups l names w = some (gs.map (fun x : GT => x.f1), e) ∧ tocsinref16_Groups l names w = some (gs, e) ∧ (e = 0 → IsParts names w (vsort l) gs ∧ (vecE l).2 = 0 ∧ namesB names = true) ∧ gs.length ≤ 1000 ∧ (e ≠ 0 → gs = []) := by
  unfold aggr_Groups tocsinref16_Groups
  rw [Vector_eq, refVector_eq]
  simp only [Option.bind_some]
  by_cases h0 : (vecE l).2 = 0
  · rw [show ((vecE l).2 != 0) = false by simpa using h0, wrong_eq names (by omega), Named_eq names (by omega)]
    simp only [cond_false, Option.bind_some]
    cases hnb : namesB names with
    | false => exact ⟨[], 40, rfl, rfl, fun h => (by cases h), by simp, fun _ => rfl⟩
    | true =>
      obtain ⟨a1, a2, a3, a4⟩ := vecE_ok h0
      have hv : ∀ p ∈ vsort l, (rightE p.f0).1 = 0 := fun p hp => a2 p ((vsort_perm l).mem_iff.1 hp)
      have lv : (vsort l).length ≤ 1000 := by rw [vsort_len]; exact a1
      obtain ⟨gs, g1, g2, g3⟩ := Parts_eq (names := names) (w := w) hn hv lv
      rw [a4]
      simp only [cond_true, bne_self_eq_false, cond_false, Bool.not_true]
      obtain ⟨keys, at_, out, h1, h2⟩ := ginv_loop (names := names) (w := w) (e := (vecE l).2) hn hv lv _ 0 [] [] [] rfl (by omega) ⟨rfl, by simp, List.nodup_nil, fun k hk => (by cases hk), fun j h => (by cases h), fun p hp => (by rw [List.take_zero] at hp; cases hp), fun j h => (by cases h), fun k x hk => (by cases hk)⟩
      have hy : ((vecE l) : List PT × Int) = (vsort l, (vecE l).2) := by rw [← a4]
      rw [hy]
      rw [show (([], ([] : List (ByteArray × Int)), [], 0) : List (List LB) × List (ByteArray × Int) × List (List PT) × Int) = ([], [], [], ((0 : Nat) : Int)) from rfl, h1]
      simp only [Option.bind_some]
      have hlen := h2.len
      have hle := h2.le
      refine ⟨gs, 0, ?_, by rw [g1]; rfl, fun _ => ⟨g2, h0, by first | rfl | trivial⟩, by omega, fun h => absurd rfl h⟩
      have hmk : mkrow (0 : Int) (out.length : Int) (out.length : Int) = some (List.replicate out.length 0) := by
        unfold mkrow
        rw [if_pos ⟨by omega, by omega, by omega⟩]; rfl
      rw [hmk]
      simp only [Option.bind_some]
      rw [ord_loop (n := out.length) (by omega) (by simp)]
      simp only [Option.bind_some]
      rw [hlen]
      refine sortBind_of ⟨kOrd keys, cmp_ord h2.right, kOrd_swo keys⟩ fun r hr => ?_
      have hs := hr.2 (kOrd keys) (cmp_ord h2.right)
      have hp := ginv_parts h2 hr.1 hs
      rw [pick_loop (n := keys.length) (by omega) hlen hr.1]
      simp only [Option.bind_some]
      rw [← hp.uniq g2, List.map_map]; rfl
  · rw [show ((vecE l).2 != 0) = true by simpa using h0]
    exact ⟨[], (vecE l).2, rfl, rfl, fun h => absurd h h0, by simp, fun _ => rfl⟩
end Go.Proofs.YtkjkkimnjpodiaaGreatDoor
set_option linter.unusedVariables false
set_option linter.unusedSimpArgs false
set_option maxRecDepth 100000
namespace Go.Proofs.YtkjkkimnjpodiaaGreatDoor
open Go.GB Go.Lib
def sumL (gs : List GT) : Nat := (gs.map fun x => x.f1.length).sum
open Classical in
theorem sum_parts {names : List ByteArray} {w : Bool} : ∀ {gs : List GT} {v : List PT}, gs.Pairwise (fun x y => cmpL x.f0 y.f0 < 0) → (∀ x ∈ gs, x.f1 = v.filter (fun p => decide (gE names w p = x.f0))) → (∀ p ∈ v, ∃ x ∈ gs, x.f0 = gE names w p) → sumL gs = v.length
  | [], v, _, _, h3 => by
    cases v with
    | nil => rfl
    | cons p v => obtain ⟨x, hx, _⟩ := h3 p (by simp); cases hx
  | x :: gs, v, h1, h2, h3 => by
    obtain ⟨q1, q2⟩ := List.pairwise_cons.1 h1
    have hne : ∀ y ∈ gs, y.f0 ≠ x.f0 := fun y hy e => by have := q1 y hy; rw [e, cmpL_self] at this; omega
    have ih := sum_parts (names := names) (w := w) (gs := gs) (v := v.filter fun p => !decide (gE names w p = x.f0)) q2 (fun y hy => by
      rw [h2 y (by simp [hy]), List.filter_filter]
      refine List.filter_congr fun p _ => ?_
      by_cases e : gE names w p = y.f0
      · have : gE names w p ≠ x.f0 := fun e2 => hne y hy (e.symm.trans e2)
        rw [decide_eq_true e, decide_eq_false this]; rfl
      · rw [decide_eq_false e, Bool.false_and]) (fun p hp => by
      obtain ⟨hp1, hp2⟩ := List.mem_filter.1 hp
      obtain ⟨y, hy, e⟩ := h3 p hp1
      rcases List.mem_cons.1 hy with rfl | hy
      · rw [decide_eq_true e.symm] at hp2; cases hp2
      · exact ⟨y, hy, e⟩)
    have e1 : sumL (x :: gs) = x.f1.length + sumL gs := by unfold sumL; simp
    have e2 : (v.filter (fun p => decide (gE names w p = x.f0))).length + (v.filter fun p => !decide (gE names w p = x.f0)).length = v.length := by
      clear h1 h2 h3 ih
      induction v with
      | nil => rfl
      | cons p v ih =>
        by_cases h : gE names w p = x.f0
        · simp [h]; omega
        · simp [h]; omega
    rw [e1, ih, h2 x (by simp)]
    exact e2
theorem sum_take {gs : List GT} {i : Nat} (hi : i < gs.length) : sumL (gs.take (i + 1)) = sumL (gs.take i) + gs[i].f1.length := by
  unfold sumL
  rw [List.take_add_one, List.getElem?_eq_getElem hi, List.map_append, List.sum_append]
  simp only [Option.toList_some, List.map_cons, List.map_nil, List.sum_cons, List.sum_nil, Nat.add_zero]
theorem sum_mono {gs : List GT} (i : Nat) : sumL (gs.take i) ≤ sumL gs := by
  have h : sumL gs = sumL (gs.take i) + sumL (gs.drop i) := by
    unfold sumL
    rw [← List.sum_append, ← List.map_append, List.take_append_drop]
  omega
theorem AggrGroups_core {l : List PT} {names : List ByteArray} {w : Bool} (hl : ∀ p ∈ l, FinP p) (hn : names.length < 2147483000) : tocsinlaw16_AggrGroups l names w = some true := by
  obtain ⟨gs, e, h1, h2, h3, h4, h5⟩ := Groups_both (l := l) (w := w) hn
  unfold tocsinlaw16_AggrGroups
  rw [h1, h2]
  simp only [Option.bind_some, List.length_map, bne_self_eq_false, Bool.or_false, cond_false]
  by_cases he : e = 0
  · subst he
    obtain ⟨hp, hv, hnb⟩ := h3 rfl
    obtain ⟨a1, a2, a3, a4⟩ := vecE_ok hv
    have hsum : sumL gs = (vsort l).length := sum_parts (w := w) hp.rise (fun x hx => (hp.part x hx).1) hp.all
    rw [vsort_len] at hsum
    have mem : ∀ x ∈ gs, ∀ p ∈ x.f1, p ∈ l ∧ gE names w p = x.f0 := fun x hx p hpx => by
      rw [(hp.part x hx).1] at hpx
      obtain ⟨q1, q2⟩ := List.mem_filter.1 hpx
      exact ⟨(vsort_perm l).mem_iff.1 q1, by classical exact of_decide_eq_true q2⟩
    have hloop := up_inv (body := tocsinlaw16_AggrGroups_l41 names w (gs.map (fun x : GT => x.f1), 0) (gs, 0)) (fun k => (((sumL (gs.take k) : Nat) : Int), (k : Int))) (n := gs.length) (r := (.inl ((sumL gs : Nat) : Int) : Int ⊕ Bool)) (fun k hk => by
        have hk2 : k < (gs.map (fun x : GT => x.f1)).length := by rw [List.length_map]; exact hk
        have hgk : gs[k] ∈ gs := List.getElem_mem hk
        have hxl : gs[k].f1.length ≤ 1000 := by
          have e1 := sum_take hk
          have e2 := sum_mono (gs := gs) (k + 1)
          omega
        unfold tocsinlaw16_AggrGroups_l41
        simp only
        rw [show decide ((k : Int) < ((gs.map (fun x : GT => x.f1)).length : Int)) = true from decide_eq_true (by omega)]
        simp only [cond_true, ix_nat, List.getElem?_map, List.getElem?_eq_getElem hk, Option.map_some, Option.bind_some]
        rw [Same_self (fun p hpx => hl p (mem _ hgk p hpx).1) (by omega)]
        simp only [Option.bind_some, Bool.not_true, cond_false]
        rw [up_find (n := gs[k].f1.length) (fun _ => none) (fun j hj => ?_) ?_]
        · rw [show (List.range gs[k].f1.length).findSome? (fun _ => (none : Option ((Int × Int) ⊕ ((Int) ⊕ (Bool))))) = none by simp]
          have e1 := sum_take hk
          have e2 := sum_mono (gs := gs) (k + 1)
          simp only [Option.bind_some, wrap_up (show k < 4294967296 by omega)]
          rw [wrap64 (by omega) (by omega), e1]
          rfl
        · unfold tocsinlaw16_AggrGroups_l113
          rw [show decide ((gs[k].f1.length : Int) < (gs[k].f1.length : Int)) = false from decide_eq_false (by omega)]; rfl
        · obtain ⟨m1, m2⟩ := mem _ hgk _ (List.getElem_mem hj)
          have hr := a2 _ m1
          have hgl := (right_parts (groupE_right hr names w)).1
          unfold tocsinlaw16_AggrGroups_l113
          rw [show decide ((j : Int) < (gs[k].f1.length : Int)) = true from decide_eq_true (by omega)]
          simp only [cond_true, ix_nat, List.getElem?_eq_getElem hj, List.getElem?_eq_getElem hk, Option.bind_some, wrap_up (show j < 4294967296 by omega)]
          rw [Group_eq _ names w hn]
          have hG : GroupE gs[k].f1[j].f0 names w = (gs[k].f0, 0) := by
            unfold GroupE
            rw [show ((rightE gs[k].f1[j].f0).1 != 0) = false by simpa using hr, hnb]
            simp only [cond_false, cond_true]
            rw [← m2]
          rw [hG]
          have hgl2 : gs[k].f0.length ≤ 2147483648 := by rw [← m2]; exact gE_len hr names w
          simp only [Option.bind_some, bne_self_eq_false, cond_false]
          rw [refSame_eq _ _ hgl2, cmpL_self]
          rfl)
      (by
        unfold tocsinlaw16_AggrGroups_l41
        simp only
        rw [show decide ((gs.length : Int) < ((gs.map (fun x : GT => x.f1)).length : Int)) = false from decide_eq_false (by rw [List.length_map]; omega), List.take_length]; rfl) 0 (by omega)
    rw [List.take_zero] at hloop
    rw [show ((((sumL ([] : List GT) : Nat) : Int), ((0 : Nat) : Int))) = ((0 : Int), (0 : Int)) from rfl] at hloop
    rw [hloop]
    simp only [Option.bind_some, bne_self_eq_false, cond_false, hsum, beq_self_eq_true, cond_true, awake_true]
  · rw [h5 he]
    rw [loopO_done (r := (.inl 0 : Int ⊕ Bool)) (by unfold tocsinlaw16_AggrGroups_l41; rfl)]
    simp only [Option.bind_some]
    rw [show (e != 0) = true by simpa using he]
    simp only [cond_true, Option.bind_some, awake_true]
theorem tocsinlaw16_AggrGroups_true {I : Imm} {c0 c1 c2 : List Value} {n0 n1 n2 : Nat} (a0 : List PT) (a1 : List ByteArray) (a2 : Bool) (h0 : (Kd.sl kS38).R I a0 c0) (h1 : (Kd.sl Kd.str).R I a1 c1) (h2 : Kd.bool.R I a2 c2)
    (w0 : wSl wS38 a0 n0) (w1 : wSl wStr a1 n1) (w2 : wBool a2 n2) (hn : n0 + n1 + n2 ≤ 1048576) : tocsinlaw16_AggrGroups a0 a1 a2 = some true := by
  have l1 := w1.len
  refine AggrGroups_core (fun p hp => ?_) (by omega)
  obtain ⟨a, ⟨q0, q1, g1, g2, x, g3, _⟩, g4⟩ := w0.mem hp
  have := g2.len
  exact ⟨by omega, x, g3⟩
end Go.Proofs.YtkjkkimnjpodiaaGreatDoor
