import Derived.Test.YtlkmfhccpcncnaaDoorH7
import Derived.Test.YtlkmfhccpcncnaaDoorGB13
import Derived.KernelRfl
import Derived.Lib.LaidU8T
import Derived.Shelf.Unicode.ValidAny
set_option linter.unusedVariables false
set_option linter.unusedSimpArgs false
set_option maxRecDepth 100000
namespace Go.Proofs.YtlkmfhccpcncnaaDoor
open Go.GB
noncomputable def tocsinlaw26_lent_l28_c (a0 : List (List S79)) : ((List (List S79)) × Int) → Option (((List (List S79)) × Int) ⊕ ((List (List S79)))) := fun s11 =>
  bif (decide (s11.2 < (a0.length : Int))) then
  (Option.bind (ix a0 s11.2) fun (x31 : List S79) =>
    Option.bind (app ([] : List S79) x31) fun (zs42 : List S79) =>
    Option.bind (app s11.1 [zs42]) fun (zs56 : List (List S79)) =>
    some (Sum.inl (zs56, (IntKind.wrap .i64 (s11.2 + 1)))))
  else
  (some (Sum.inr s11.1))
theorem tocsinlaw26_lent_l28_ev (a0 : List (List S79)) (s11 : (List (List S79)) × Int) : OLe (tocsinlaw26_lent_l28_c a0 s11) (tocsinlaw26_lent_l28 a0 s11) := by
  unfold tocsinlaw26_lent_l28_c tocsinlaw26_lent_l28
  exact (OLe.cond (OLe.bind (OLe.refl _) (fun _ => (OLe.bind (OLe.refl _) (fun _ => (OLe.bind (OLe.refl _) (fun _ => (OLe.refl _))))))) (OLe.refl _))
noncomputable def tocsinlaw26_lent_c (a0 : List (List S79)) : Option (List (List S79)) :=
  Option.bind (loopF 1000000 (tocsinlaw26_lent_l28_c a0) ([], 0)) fun (r9 : (List (List S79))) =>
  some r9
theorem tocsinlaw26_lent_ev (a0 : List (List S79)) : OLe (tocsinlaw26_lent_c a0) (tocsinlaw26_lent a0) := by
  unfold tocsinlaw26_lent_c tocsinlaw26_lent
  exact (OLe.bind (OLe.loop (fun _ => tocsinlaw26_lent_l28_ev _ _)) (fun _ => (OLe.refl _)))
noncomputable def tocsinlaw26_mark_c (a0 : S23) : Option S23 :=
  Option.bind (tocsinlaw26_lent_c a0.f3) fun (y3 : (List (List S79))) =>
  Option.bind (tocsinlaw26_lent_c a0.f4) fun (y12 : (List (List S79))) =>
  some (⟨a0.f0, a0.f1, a0.f2, y3, y12⟩ : S23)
theorem tocsinlaw26_mark_ev (a0 : S23) : OLe (tocsinlaw26_mark_c a0) (tocsinlaw26_mark a0) := by
  unfold tocsinlaw26_mark_c tocsinlaw26_mark
  exact (OLe.bind (tocsinlaw26_lent_ev _) (fun _ => (OLe.bind (tocsinlaw26_lent_ev _) (fun _ => (OLe.refl _)))))
noncomputable def utf8_ValidString_c (a0 : ByteArray) : Option Bool := utf8_ValidString a0
theorem utf8_ValidString_ev (a0 : ByteArray) : OLe (utf8_ValidString_c a0) (utf8_ValidString a0) := OLe.refl _
noncomputable def nflog_text_c (a0 : ByteArray) (a1 : Int) : Option Bool :=
  Option.bind (bif (decide ((a0.size : Int) ≥ 1)) then
    (bif (decide ((a0.size : Int) ≤ a1)) then
      (Option.bind (utf8_ValidString_c a0) fun (y8 : Bool) =>
        some y8)
      else
      (some false))
    else
    (some false)) fun (j1 : Bool) =>
  some j1
theorem nflog_text_ev (a0 : ByteArray) (a1 : Int) : OLe (nflog_text_c a0 a1) (nflog_text a0 a1) := by
  unfold nflog_text_c nflog_text
  exact (OLe.bind (OLe.cond (OLe.cond (OLe.bind (utf8_ValidString_ev _) (fun _ => (OLe.refl _))) (OLe.refl _)) (OLe.refl _)) (fun _ => (OLe.refl _)))
noncomputable def labels_named_l33_c (a2 : Bool) (l11 : List Int) : Int → Option ((Int) ⊕ ((Unit) ⊕ (Bool))) := fun s23 =>
  bif (decide (s23 < (l11.length : Int))) then
  (Option.bind (ix l11 s23) fun (x36 : Int) =>
    bif (((!(labels_letter x36)) && (!(labels_digit x36))) && (!(a2 && (x36 == 58)))) then
    (some (Sum.inr (Sum.inr false)))
    else
    (some (Sum.inl (IntKind.wrap .i64 (s23 + 1)))))
  else
  (some (Sum.inr (Sum.inl ())))
theorem labels_named_l33_ev (a2 : Bool) (l11 : List Int) (s23 : Int) : OLe (labels_named_l33_c a2 l11 s23) (labels_named_l33 a2 l11 s23) := by
  unfold labels_named_l33_c labels_named_l33
  exact (OLe.cond (OLe.bind (OLe.refl _) (fun _ => (OLe.cond (OLe.refl _) (OLe.refl _)))) (OLe.refl _))
noncomputable def labels_named_c (a0 : ByteArray) (a1 : Int) (a2 : Bool) : Option Bool :=
  Option.bind (bif (a0.toList == (⟨#[]⟩ : ByteArray).toList) then
    (some true)
    else
    (bif (decide ((a0.size : Int) > a1)) then
      (some true)
      else
      (Option.bind (bx a0 0) fun (c8 : Int) =>
        some (labels_digit c8)))) fun (j1 : Bool) =>
  bif j1 then
  (some false)
  else
  (Option.bind (sb a0) fun (l11 : List Int) =>
    Option.bind (loopF 1000000 (labels_named_l33_c a2 l11) 0) fun (r21 : (Unit) ⊕ (Bool)) =>
    match r21 with
    | Sum.inl r29 => some true
    | Sum.inr v54 => some v54)
theorem labels_named_ev (a0 : ByteArray) (a1 : Int) (a2 : Bool) : OLe (labels_named_c a0 a1 a2) (labels_named a0 a1 a2) := by
  unfold labels_named_c labels_named
  exact (OLe.bind (OLe.cond (OLe.refl _) (OLe.cond (OLe.refl _) (OLe.bind (OLe.refl _) (fun _ => (OLe.refl _))))) (fun _ => (OLe.cond (OLe.refl _) (OLe.bind (OLe.refl _) (fun _ => (OLe.bind (OLe.loop (fun _ => labels_named_l33_ev _ _ _)) (fun j => by cases j with | inl a => exact (OLe.refl _) | inr b => exact (OLe.refl _))))))))
noncomputable def labels_Name_c (a0 : ByteArray) : Option Bool :=
  Option.bind (labels_named_c a0 64 false) fun (y1 : Bool) =>
  some y1
theorem labels_Name_ev (a0 : ByteArray) : OLe (labels_Name_c a0) (labels_Name a0) := by
  unfold labels_Name_c labels_Name
  exact (OLe.bind (labels_named_ev _ _ _) (fun _ => (OLe.refl _)))
noncomputable def labels_value_c (a0 : ByteArray) : Option Int :=
  bif (a0.toList == (⟨#[]⟩ : ByteArray).toList) then
  (some 41)
  else
  (bif (decide ((a0.size : Int) > 256)) then
    (some 4)
    else
    (Option.bind (utf8_ValidString_c a0) fun (y3 : Bool) =>
      bif (!y3) then
      (some 12)
      else
      (some 0)))
theorem labels_value_ev (a0 : ByteArray) : OLe (labels_value_c a0) (labels_value a0) := by
  unfold labels_value_c labels_value
  exact (OLe.cond (OLe.refl _) (OLe.cond (OLe.refl _) (OLe.bind (utf8_ValidString_ev _) (fun _ => (OLe.cond (OLe.refl _) (OLe.refl _))))))
noncomputable def labels_Right_l18_c (a0 : List S79) : Int → Option ((Int) ⊕ ((Unit) ⊕ (Int × Int))) := fun s8 =>
  bif (decide (s8 < (a0.length : Int))) then
  (Option.bind (ix a0 s8) fun (x21 : S79) =>
    Option.bind (labels_Name_c x21.f0) fun (y30 : Bool) =>
    bif (!y30) then
    (some (Sum.inr (Sum.inr (40, s8))))
    else
    (Option.bind (labels_value_c x21.f1) fun (y33 : Int) =>
      bif (y33 != 0) then
      (some (Sum.inr (Sum.inr (y33, s8))))
      else
      (Option.bind (bif (decide (s8 > 0)) then
          (Option.bind (ix a0 (IntKind.wrap .i64 (s8 - 1))) fun (x42 : S79) =>
            some ((Op.bytesLess x21.f0.toList x42.f0.toList) || (x21.f0.toList == x42.f0.toList)))
          else
          (some false)) fun (j36 : Bool) =>
        bif j36 then
        (some (Sum.inr (Sum.inr (3, s8))))
        else
        (some (Sum.inl (IntKind.wrap .i64 (s8 + 1)))))))
  else
  (some (Sum.inr (Sum.inl ())))
theorem labels_Right_l18_ev (a0 : List S79) (s8 : Int) : OLe (labels_Right_l18_c a0 s8) (labels_Right_l18 a0 s8) := by
  unfold labels_Right_l18_c labels_Right_l18
  exact (OLe.cond (OLe.bind (OLe.refl _) (fun _ => (OLe.bind (labels_Name_ev _) (fun _ => (OLe.cond (OLe.refl _) (OLe.bind (labels_value_ev _) (fun _ => (OLe.cond (OLe.refl _) (OLe.bind (OLe.cond (OLe.bind (OLe.refl _) (fun _ => (OLe.refl _))) (OLe.refl _)) (fun _ => (OLe.cond (OLe.refl _) (OLe.refl _)))))))))))) (OLe.refl _))
noncomputable def labels_Right_c (a0 : List S79) : Option (Int × Int) :=
  bif (decide ((a0.length : Int) > 16)) then
  (some (8, 0))
  else
  (Option.bind (loopF 1000000 (labels_Right_l18_c a0) 0) fun (r6 : (Unit) ⊕ (Int × Int)) =>
    match r6 with
    | Sum.inl r14 => some (0, 0)
    | Sum.inr v51 => some v51)
theorem labels_Right_ev (a0 : List S79) : OLe (labels_Right_c a0) (labels_Right a0) := by
  unfold labels_Right_c labels_Right
  exact (OLe.cond (OLe.refl _) (OLe.bind (OLe.loop (fun _ => labels_Right_l18_ev _ _)) (fun j => by cases j with | inl a => exact (OLe.refl _) | inr b => exact (OLe.refl _))))
noncomputable def slices_CompareFunc_l17_c (a0 : List S79) (a1 : List S79) (a2 : S79 → S79 → Option Int) : Int → Option ((Int) ⊕ ((Unit) ⊕ (Int))) := fun s7 =>
  bif (decide (s7 < (a0.length : Int))) then
  (Option.bind (ix a0 s7) fun (x20 : S79) =>
    bif (decide (s7 ≥ (a1.length : Int))) then
    (some (Sum.inr (Sum.inr 1)))
    else
    (Option.bind (ix a1 s7) fun (x30 : S79) =>
      Option.bind (a2 x20 x30) fun (y40 : Int) =>
      bif (y40 != 0) then
      (some (Sum.inr (Sum.inr y40)))
      else
      (some (Sum.inl (IntKind.wrap .i64 (s7 + 1))))))
  else
  (some (Sum.inr (Sum.inl ())))
theorem slices_CompareFunc_l17_ev (a0 : List S79) (a1 : List S79) {a2 a2' : S79 → S79 → Option Int} (ha2 : ∀ x0 x1, OLe (a2 x0 x1) (a2' x0 x1)) (s7 : Int) : OLe (slices_CompareFunc_l17_c a0 a1 a2 s7) (slices_CompareFunc_l17 a0 a1 a2' s7) := by
  unfold slices_CompareFunc_l17_c slices_CompareFunc_l17
  exact (OLe.cond (OLe.bind (OLe.refl _) (fun _ => (OLe.cond (OLe.refl _) (OLe.bind (OLe.refl _) (fun _ => (OLe.bind (ha2 _ _) (fun _ => (OLe.cond (OLe.refl _) (OLe.refl _))))))))) (OLe.refl _))
noncomputable def slices_CompareFunc_c (a0 : List S79) (a1 : List S79) (a2 : S79 → S79 → Option Int) : Option Int :=
  Option.bind (loopF 1000000 (slices_CompareFunc_l17_c a0 a1 a2) 0) fun (r5 : (Unit) ⊕ (Int)) =>
  match r5 with
  | Sum.inl r13 => bif (decide ((a0.length : Int) < (a1.length : Int))) then
    (some (-1))
    else
    (some 0)
  | Sum.inr v43 => some v43
theorem slices_CompareFunc_ev (a0 : List S79) (a1 : List S79) {a2 a2' : S79 → S79 → Option Int} (ha2 : ∀ x0 x1, OLe (a2 x0 x1) (a2' x0 x1)) : OLe (slices_CompareFunc_c a0 a1 a2) (slices_CompareFunc a0 a1 a2') := by
  unfold slices_CompareFunc_c slices_CompareFunc
  exact (OLe.bind (OLe.loop (fun _ => slices_CompareFunc_l17_ev _ _ ha2 _)) (fun j => by cases j with | inl a => exact (OLe.cond (OLe.refl _) (OLe.refl _)) | inr b => exact (OLe.refl _)))
noncomputable def labels_Compare_c (a0 : List S79) (a1 : List S79) : Option Int :=
  Option.bind (slices_CompareFunc_c a0 a1 (fun x0 x1 => some (labels_Compare_1 x0 x1))) fun (y1 : Int) =>
  some y1
theorem labels_Compare_ev (a0 : List S79) (a1 : List S79) : OLe (labels_Compare_c a0 a1) (labels_Compare a0 a1) := by
  unfold labels_Compare_c labels_Compare
  exact (OLe.bind (slices_CompareFunc_ev _ _ (fun _ _ => OLe.refl _)) (fun _ => (OLe.refl _)))
noncomputable def nflog_rising_l17_c (a0 : List (List S79)) : Int → Option ((Int) ⊕ ((Unit) ⊕ (Bool))) := fun s7 =>
  bif (decide (s7 < (a0.length : Int))) then
  (Option.bind (ix a0 s7) fun (x20 : List S79) =>
    Option.bind (labels_Right_c x20) fun (y31 : Int × Int) =>
    Option.bind (bif (y31.1 != 0) then
      (some true)
      else
      (bif (decide (s7 > 0)) then
        (Option.bind (ix a0 (IntKind.wrap .i64 (s7 - 1))) fun (x40 : List S79) =>
          Option.bind (labels_Compare_c x40 x20) fun (y51 : Int) =>
          some (decide (y51 ≥ 0)))
        else
        (some false))) fun (j33 : Bool) =>
    bif j33 then
    (some (Sum.inr (Sum.inr false)))
    else
    (some (Sum.inl (IntKind.wrap .i64 (s7 + 1)))))
  else
  (some (Sum.inr (Sum.inl ())))
theorem nflog_rising_l17_ev (a0 : List (List S79)) (s7 : Int) : OLe (nflog_rising_l17_c a0 s7) (nflog_rising_l17 a0 s7) := by
  unfold nflog_rising_l17_c nflog_rising_l17
  exact (OLe.cond (OLe.bind (OLe.refl _) (fun _ => (OLe.bind (labels_Right_ev _) (fun _ => (OLe.bind (OLe.cond (OLe.refl _) (OLe.cond (OLe.bind (OLe.refl _) (fun _ => (OLe.bind (labels_Compare_ev _ _) (fun _ => (OLe.refl _))))) (OLe.refl _))) (fun _ => (OLe.cond (OLe.refl _) (OLe.refl _)))))))) (OLe.refl _))
noncomputable def nflog_rising_c (a0 : List (List S79)) : Option Bool :=
  Option.bind (loopF 1000000 (nflog_rising_l17_c a0) 0) fun (r5 : (Unit) ⊕ (Bool)) =>
  match r5 with
  | Sum.inl r13 => some true
  | Sum.inr v54 => some v54
theorem nflog_rising_ev (a0 : List (List S79)) : OLe (nflog_rising_c a0) (nflog_rising a0) := by
  unfold nflog_rising_c nflog_rising
  exact (OLe.bind (OLe.loop (fun _ => nflog_rising_l17_ev _ _)) (fun j => by cases j with | inl a => exact (OLe.refl _) | inr b => exact (OLe.refl _)))
noncomputable def nflog_Right_c (a0 : S23) : Option Int :=
  Option.bind (nflog_text_c a0.f0 64) fun (y2 : Bool) =>
  bif (!y2) then
  (some 204)
  else
  (Option.bind (nflog_text_c a0.f1 65536) fun (y5 : Bool) =>
    bif (!y5) then
    (some 40)
    else
    (bif ((decide (a0.f2 < 0)) || (decide (a0.f2 > 1125899906842624))) then
      (some 1)
      else
      (bif ((decide ((a0.f3.length : Int) > 500)) || (decide ((a0.f4.length : Int) > 500))) then
        (some 8)
        else
        (Option.bind (Option.bind (nflog_rising_c a0.f3) fun (y27 : Bool) =>
            bif (!y27) then
            (some true)
            else
            (Option.bind (nflog_rising_c a0.f4) fun (y30 : Bool) =>
              some (!y30))) fun (j22 : Bool) =>
          bif j22 then
          (some 41)
          else
          (some 0)))))
theorem nflog_Right_ev (a0 : S23) : OLe (nflog_Right_c a0) (nflog_Right a0) := by
  unfold nflog_Right_c nflog_Right
  exact (OLe.bind (nflog_text_ev _ _) (fun _ => (OLe.cond (OLe.refl _) (OLe.bind (nflog_text_ev _ _) (fun _ => (OLe.cond (OLe.refl _) (OLe.cond (OLe.refl _) (OLe.cond (OLe.refl _) (OLe.bind (OLe.bind (nflog_rising_ev _) (fun _ => (OLe.cond (OLe.refl _) (OLe.bind (nflog_rising_ev _) (fun _ => (OLe.refl _)))))) (fun _ => (OLe.cond (OLe.refl _) (OLe.refl _))))))))))))
noncomputable def vint_joined_c (a0 : List Int) (a1 : List Int) : Option (List Int) :=
  Option.bind (mkrow (0 : Int) 0 (IntKind.wrap .i64 ((a0.length : Int) + (a1.length : Int)))) fun (xs1 : List Int) =>
  Option.bind (app xs1 a0) fun (zs6 : List Int) =>
  Option.bind (app zs6 a1) fun (zs12 : List Int) =>
  some zs12
theorem vint_joined_ev (a0 : List Int) (a1 : List Int) : OLe (vint_joined_c a0 a1) (vint_joined a0 a1) := by
  unfold vint_joined_c vint_joined
  exact (OLe.bind (OLe.refl _) (fun _ => (OLe.bind (OLe.refl _) (fun _ => (OLe.bind (OLe.refl _) (fun _ => (OLe.refl _)))))))
noncomputable def vint_PutU_l28_c : (Int × (List Int)) → Option ((Int × (List Int)) ⊕ (Int × (List Int))) := fun s11 =>
  bif (decide (s11.1 ≥ 128)) then
  (Option.bind (app s11.2 [(bitOr .u8 (IntKind.wrap .u8 s11.1) 128)]) fun (zs35 : List Int) =>
    some (Sum.inl ((shr .u64 s11.1 7), zs35)))
  else
  (some (Sum.inr (s11.1, s11.2)))
theorem vint_PutU_l28_ev  (s11 : Int × (List Int)) : OLe (vint_PutU_l28_c  s11) (vint_PutU_l28  s11) := by
  unfold vint_PutU_l28_c vint_PutU_l28
  exact (OLe.cond (OLe.bind (OLe.refl _) (fun _ => (OLe.refl _))) (OLe.refl _))
noncomputable def vint_PutU_c (a0 : List Int) (a1 : Int) : Option (List Int) :=
  Option.bind (loopF 1000000 vint_PutU_l28_c (a1, [])) fun (r9 : Int × (List Int)) =>
  Option.bind (app r9.2 [(IntKind.wrap .u8 r9.1)]) fun (zs45 : List Int) =>
  Option.bind (vint_joined_c a0 zs45) fun (y55 : (List Int)) =>
  some y55
theorem vint_PutU_ev (a0 : List Int) (a1 : Int) : OLe (vint_PutU_c a0 a1) (vint_PutU a0 a1) := by
  unfold vint_PutU_c vint_PutU
  exact (OLe.bind (OLe.loop (fun _ => vint_PutU_l28_ev  _)) (fun _ => (OLe.bind (OLe.refl _) (fun _ => (OLe.bind (vint_joined_ev _ _) (fun _ => (OLe.refl _)))))))
noncomputable def vint_PutText_c (a0 : List Int) (a1 : ByteArray) : Option (List Int) :=
  Option.bind (vint_PutU_c a0 (IntKind.wrap .u64 (a1.size : Int))) fun (y1 : (List Int)) =>
  Option.bind (sb a1) fun (l10 : List Int) =>
  Option.bind (vint_joined_c y1 l10) fun (y21 : (List Int)) =>
  some y21
theorem vint_PutText_ev (a0 : List Int) (a1 : ByteArray) : OLe (vint_PutText_c a0 a1) (vint_PutText a0 a1) := by
  unfold vint_PutText_c vint_PutText
  exact (OLe.bind (vint_PutU_ev _ _) (fun _ => (OLe.bind (OLe.refl _) (fun _ => (OLe.bind (vint_joined_ev _ _) (fun _ => (OLe.refl _)))))))
noncomputable def vint_PutI_c (a0 : List Int) (a1 : Int) : Option (List Int) :=
  Option.bind (vint_PutU_c a0 (bitXor .u64 (shl .u64 (IntKind.wrap .u64 a1) 1) (IntKind.wrap .u64 (shr .i64 a1 63)))) fun (y1 : (List Int)) =>
  some y1
theorem vint_PutI_ev (a0 : List Int) (a1 : Int) : OLe (vint_PutI_c a0 a1) (vint_PutI a0 a1) := by
  unfold vint_PutI_c vint_PutI
  exact (OLe.bind (vint_PutU_ev _ _) (fun _ => (OLe.refl _)))
noncomputable def labels_right_c (a0 : List S79) : Option Int :=
  Option.bind (labels_Right_c a0) fun (y1 : Int × Int) =>
  some y1.1
theorem labels_right_ev (a0 : List S79) : OLe (labels_right_c a0) (labels_right a0) := by
  unfold labels_right_c labels_right
  exact (OLe.bind (labels_Right_ev _) (fun _ => (OLe.refl _)))
noncomputable def labels_Put_l40_c (a1 : List S79) : ((List Int) × Int) → Option (((List Int) × Int) ⊕ ((List Int))) := fun s23 =>
  bif (decide (s23.2 < (a1.length : Int))) then
  (Option.bind (ix a1 s23.2) fun (x43 : S79) =>
    Option.bind (vint_PutText_c s23.1 x43.f0) fun (y56 : (List Int)) =>
    Option.bind (vint_PutText_c y56 x43.f1) fun (y69 : (List Int)) =>
    some (Sum.inl (y69, (IntKind.wrap .i64 (s23.2 + 1)))))
  else
  (some (Sum.inr s23.1))
theorem labels_Put_l40_ev (a1 : List S79) (s23 : (List Int) × Int) : OLe (labels_Put_l40_c a1 s23) (labels_Put_l40 a1 s23) := by
  unfold labels_Put_l40_c labels_Put_l40
  exact (OLe.cond (OLe.bind (OLe.refl _) (fun _ => (OLe.bind (vint_PutText_ev _ _) (fun _ => (OLe.bind (vint_PutText_ev _ _) (fun _ => (OLe.refl _))))))) (OLe.refl _))
noncomputable def labels_Put_c (a0 : List Int) (a1 : List S79) : Option ((List Int) × Int) :=
  Option.bind (labels_right_c a1) fun (y1 : Int) =>
  bif (y1 != 0) then
  (some ([], y1))
  else
  (Option.bind (vint_PutU_c a0 (IntKind.wrap .u64 (a1.length : Int))) fun (y4 : (List Int)) =>
    Option.bind (loopF 1000000 (labels_Put_l40_c a1) (y4, 0)) fun (r21 : (List Int)) =>
    some (r21, 0))
theorem labels_Put_ev (a0 : List Int) (a1 : List S79) : OLe (labels_Put_c a0 a1) (labels_Put a0 a1) := by
  unfold labels_Put_c labels_Put
  exact (OLe.bind (labels_right_ev _) (fun _ => (OLe.cond (OLe.refl _) (OLe.bind (vint_PutU_ev _ _) (fun _ => (OLe.bind (OLe.loop (fun _ => labels_Put_l40_ev _ _)) (fun _ => (OLe.refl _))))))))
noncomputable def nflog_record_l123_c (x71 : List (List S79)) : ((List Int) × Int) → Option (((List Int) × Int) ⊕ ((List Int))) := fun s106 =>
  bif (decide (s106.2 < (x71.length : Int))) then
  (Option.bind (ix x71 s106.2) fun (x126 : List S79) =>
    Option.bind (labels_Put_c s106.1 x126) fun (y141 : (List Int) × Int) =>
    some (Sum.inl (y141.1, (IntKind.wrap .i64 (s106.2 + 1)))))
  else
  (some (Sum.inr s106.1))
theorem nflog_record_l123_ev (x71 : List (List S79)) (s106 : (List Int) × Int) : OLe (nflog_record_l123_c x71 s106) (nflog_record_l123 x71 s106) := by
  unfold nflog_record_l123_c nflog_record_l123
  exact (OLe.cond (OLe.bind (OLe.refl _) (fun _ => (OLe.bind (labels_Put_ev _ _) (fun _ => (OLe.refl _))))) (OLe.refl _))
noncomputable def nflog_record_l68_c (a0 : S23) : ((List Int) × Int) → Option (((List Int) × Int) ⊕ ((List Int))) := fun s51 =>
  bif (decide (s51.2 < ([a0.f3, a0.f4].length : Int))) then
  (Option.bind (ix [a0.f3, a0.f4] s51.2) fun (x71 : List (List S79)) =>
    Option.bind (vint_PutU_c s51.1 (IntKind.wrap .u64 (x71.length : Int))) fun (y87 : (List Int)) =>
    Option.bind (loopF 1000000 (nflog_record_l123_c x71) (y87, 0)) fun (r104 : (List Int)) =>
    some (Sum.inl (r104, (IntKind.wrap .i64 (s51.2 + 1)))))
  else
  (some (Sum.inr s51.1))
theorem nflog_record_l68_ev (a0 : S23) (s51 : (List Int) × Int) : OLe (nflog_record_l68_c a0 s51) (nflog_record_l68 a0 s51) := by
  unfold nflog_record_l68_c nflog_record_l68
  exact (OLe.cond (OLe.bind (OLe.refl _) (fun _ => (OLe.bind (vint_PutU_ev _ _) (fun _ => (OLe.bind (OLe.loop (fun _ => nflog_record_l123_ev _ _)) (fun _ => (OLe.refl _))))))) (OLe.refl _))
noncomputable def nflog_record_c (a0 : S23) : Option (List Int) :=
  Option.bind (vint_PutText_c [] a0.f0) fun (y2 : (List Int)) =>
  Option.bind (vint_PutText_c y2 a0.f1) fun (y15 : (List Int)) =>
  Option.bind (vint_PutI_c y15 a0.f2) fun (y28 : (List Int)) =>
  Option.bind (loopF 1000000 (nflog_record_l68_c a0) (y28, 0)) fun (r49 : (List Int)) =>
  some r49
theorem nflog_record_ev (a0 : S23) : OLe (nflog_record_c a0) (nflog_record a0) := by
  unfold nflog_record_c nflog_record
  exact (OLe.bind (vint_PutText_ev _ _) (fun _ => (OLe.bind (vint_PutText_ev _ _) (fun _ => (OLe.bind (vint_PutI_ev _ _) (fun _ => (OLe.bind (OLe.loop (fun _ => nflog_record_l68_ev _ _)) (fun _ => (OLe.refl _)))))))))
noncomputable def nflog_Record_c (a0 : S23) : Option ((List Int) × Int) :=
  Option.bind (nflog_Right_c a0) fun (y2 : Int) =>
  bif (y2 != 0) then
  (some ([], y2))
  else
  (Option.bind (nflog_record_c a0) fun (y5 : (List Int)) =>
    some (y5, 0))
theorem nflog_Record_ev (a0 : S23) : OLe (nflog_Record_c a0) (nflog_Record a0) := by
  unfold nflog_Record_c nflog_Record
  exact (OLe.bind (nflog_Right_ev _) (fun _ => (OLe.cond (OLe.refl _) (OLe.bind (nflog_record_ev _) (fun _ => (OLe.refl _))))))
noncomputable def tocsinref01_Utf8_l79_c (a0 : ByteArray) (s7 : Int) (j37 : Int × Int × Int) : (Int × Int) → Option ((Int × Int) ⊕ ((Int) ⊕ ((Int) ⊕ ((Int) ⊕ ((Unit) ⊕ (Bool)))))) := fun s69 =>
  bif (decide (s69.2 ≤ j37.1)) then
  (Option.bind (bif (decide ((IntKind.wrap .i64 (s7 + s69.2)) ≥ (a0.size : Int))) then
      (some true)
      else
      (Option.bind (bx a0 (IntKind.wrap .i64 (s7 + s69.2))) fun (c88 : Int) =>
        some ((bitAnd .u8 c88 192) != 128))) fun (j82 : Bool) =>
    bif j82 then
    (some (Sum.inr (Sum.inr (Sum.inr (Sum.inr (Sum.inr false))))))
    else
    (Option.bind (bx a0 (IntKind.wrap .i64 (s7 + s69.2))) fun (c91 : Int) =>
      some (Sum.inl ((IntKind.wrap .i64 ((IntKind.wrap .i64 (s69.1 * 64)) + (IntKind.wrap .i64 (bitAnd .u8 c91 63)))), (IntKind.wrap .i64 (s69.2 + 1))))))
  else
  (some (Sum.inr (Sum.inl s69.1)))
theorem tocsinref01_Utf8_l79_ev (a0 : ByteArray) (s7 : Int) (j37 : Int × Int × Int) (s69 : Int × Int) : OLe (tocsinref01_Utf8_l79_c a0 s7 j37 s69) (tocsinref01_Utf8_l79 a0 s7 j37 s69) := by
  unfold tocsinref01_Utf8_l79_c tocsinref01_Utf8_l79
  exact (OLe.cond (OLe.bind (OLe.cond (OLe.refl _) (OLe.bind (OLe.refl _) (fun _ => (OLe.refl _)))) (fun _ => (OLe.cond (OLe.refl _) (OLe.bind (OLe.refl _) (fun _ => (OLe.refl _)))))) (OLe.refl _))
noncomputable def tocsinref01_Utf8_l17_c (a0 : ByteArray) : Int → Option ((Int) ⊕ ((Unit) ⊕ (Bool))) := fun s7 =>
  bif (decide (s7 < (a0.size : Int))) then
  (Option.bind (Option.bind (bx a0 s7) fun (c26 : Int) =>
      bif (decide ((IntKind.wrap .i64 c26) < 128)) then
      (some (Sum.inl (IntKind.wrap .i64 (s7 + 1))))
      else
      (Option.bind (bif ((decide ((IntKind.wrap .i64 c26) ≥ 194)) && (decide ((IntKind.wrap .i64 c26) < 224))) then
          (some (Sum.inl (1, 128, (bitAnd .i64 (IntKind.wrap .i64 c26) 31))))
          else
          (Option.bind (bif ((decide ((IntKind.wrap .i64 c26) ≥ 224)) && (decide ((IntKind.wrap .i64 c26) < 240))) then
              (some (Sum.inl (2, 2048, (bitAnd .i64 (IntKind.wrap .i64 c26) 15))))
              else
              (bif ((decide ((IntKind.wrap .i64 c26) ≥ 240)) && (decide ((IntKind.wrap .i64 c26) < 245))) then
                (some (Sum.inl (3, 65536, (bitAnd .i64 (IntKind.wrap .i64 c26) 7))))
                else
                (some (Sum.inr (Sum.inr (Sum.inr (Sum.inr (Sum.inr false)))))))) fun (j48 : (Int × Int × Int) ⊕ ((Int × Int × Int) ⊕ ((Int) ⊕ ((Int) ⊕ ((Unit) ⊕ (Bool)))))) =>
            match j48 with
            | Sum.inl j50 => some (Sum.inl (j50.1, j50.2.1, j50.2.2))
            | Sum.inr v62 => some v62)) fun (j35 : (Int × Int × Int) ⊕ ((Int) ⊕ ((Int) ⊕ ((Unit) ⊕ (Bool))))) =>
        match j35 with
        | Sum.inl j37 => Option.bind (loopF 1000000 (tocsinref01_Utf8_l79_c a0 s7 j37) (j37.2.2, 1)) fun (r67 : (Int) ⊕ ((Int) ⊕ ((Int) ⊕ ((Unit) ⊕ (Bool))))) =>
          match r67 with
          | Sum.inl r75 => bif (((decide (r75 < j37.2.1)) || (decide (r75 > 1114111))) || ((decide (r75 ≥ 55296)) && (decide (r75 < 57344)))) then
            (some (Sum.inr (Sum.inr (Sum.inr false))))
            else
            (some (Sum.inl (IntKind.wrap .i64 ((IntKind.wrap .i64 (s7 + j37.1)) + 1))))
          | Sum.inr v102 => some v102
        | Sum.inr v103 => some v103)) fun (j20 : (Int) ⊕ ((Int) ⊕ ((Unit) ⊕ (Bool)))) =>
    match j20 with
    | Sum.inl j22 => some (Sum.inl j22)
    | Sum.inr v104 => some v104)
  else
  (some (Sum.inr (Sum.inl ())))
theorem tocsinref01_Utf8_l17_ev (a0 : ByteArray) (s7 : Int) : OLe (tocsinref01_Utf8_l17_c a0 s7) (tocsinref01_Utf8_l17 a0 s7) := by
  unfold tocsinref01_Utf8_l17_c tocsinref01_Utf8_l17
  exact (OLe.cond (OLe.bind (OLe.bind (OLe.refl _) (fun _ => (OLe.cond (OLe.refl _) (OLe.bind (OLe.cond (OLe.refl _) (OLe.bind (OLe.cond (OLe.refl _) (OLe.cond (OLe.refl _) (OLe.refl _))) (fun j => by cases j with | inl a => exact (OLe.refl _) | inr b => exact (OLe.refl _)))) (fun j => by cases j with | inl a => exact (OLe.bind (OLe.loop (fun _ => tocsinref01_Utf8_l79_ev _ _ _ _)) (fun j => by cases j with | inl a => exact (OLe.cond (OLe.refl _) (OLe.refl _)) | inr b => exact (OLe.refl _))) | inr b => exact (OLe.refl _)))))) (fun j => by cases j with | inl a => exact (OLe.refl _) | inr b => exact (OLe.refl _))) (OLe.refl _))
noncomputable def tocsinref01_Utf8_c (a0 : ByteArray) : Option Bool :=
  Option.bind (loopF 1000000 (tocsinref01_Utf8_l17_c a0) 0) fun (r5 : (Unit) ⊕ (Bool)) =>
  match r5 with
  | Sum.inl r13 => some true
  | Sum.inr v105 => some v105
theorem tocsinref01_Utf8_ev (a0 : ByteArray) : OLe (tocsinref01_Utf8_c a0) (tocsinref01_Utf8 a0) := by
  unfold tocsinref01_Utf8_c tocsinref01_Utf8
  exact (OLe.bind (OLe.loop (fun _ => tocsinref01_Utf8_l17_ev _ _)) (fun j => by cases j with | inl a => exact (OLe.refl _) | inr b => exact (OLe.refl _)))
noncomputable def tocsinref04_Name_l24_c (a0 : ByteArray) : Int → Option ((Int) ⊕ ((Unit) ⊕ (Bool))) := fun s14 =>
  bif (decide (s14 < (a0.size : Int))) then
  (Option.bind (Option.bind (bx a0 s14) fun (c32 : Int) =>
      bif (!(tocsinref04_letter c32)) then
      (bif (s14 == 0) then
        (some true)
        else
        (Option.bind (bx a0 s14) fun (c36 : Int) =>
          some (!(tocsinref04_digit c36))))
      else
      (some false)) fun (j27 : Bool) =>
    bif j27 then
    (some (Sum.inr (Sum.inr false)))
    else
    (some (Sum.inl (IntKind.wrap .i64 (s14 + 1)))))
  else
  (some (Sum.inr (Sum.inl ())))
theorem tocsinref04_Name_l24_ev (a0 : ByteArray) (s14 : Int) : OLe (tocsinref04_Name_l24_c a0 s14) (tocsinref04_Name_l24 a0 s14) := by
  unfold tocsinref04_Name_l24_c tocsinref04_Name_l24
  exact (OLe.cond (OLe.bind (OLe.bind (OLe.refl _) (fun _ => (OLe.cond (OLe.cond (OLe.refl _) (OLe.bind (OLe.refl _) (fun _ => (OLe.refl _)))) (OLe.refl _)))) (fun _ => (OLe.cond (OLe.refl _) (OLe.refl _)))) (OLe.refl _))
noncomputable def tocsinref04_Name_c (a0 : ByteArray) : Option Bool :=
  bif ((a0.toList == (⟨#[]⟩ : ByteArray).toList) || (decide ((a0.size : Int) > 64))) then
  (some false)
  else
  (Option.bind (loopF 1000000 (tocsinref04_Name_l24_c a0) 0) fun (r12 : (Unit) ⊕ (Bool)) =>
    match r12 with
    | Sum.inl r20 => some true
    | Sum.inr v39 => some v39)
theorem tocsinref04_Name_ev (a0 : ByteArray) : OLe (tocsinref04_Name_c a0) (tocsinref04_Name a0) := by
  unfold tocsinref04_Name_c tocsinref04_Name
  exact (OLe.cond (OLe.refl _) (OLe.bind (OLe.loop (fun _ => tocsinref04_Name_l24_ev _ _)) (fun j => by cases j with | inl a => exact (OLe.refl _) | inr b => exact (OLe.refl _))))
noncomputable def tocsinref04_one_c (a0 : S79) : Option Int :=
  Option.bind (tocsinref04_Name_c a0.f0) fun (y2 : Bool) =>
  bif (!y2) then
  (some 40)
  else
  (bif (a0.f1.toList == (⟨#[]⟩ : ByteArray).toList) then
    (some 41)
    else
    (bif (decide ((a0.f1.size : Int) > 256)) then
      (some 4)
      else
      (Option.bind (tocsinref01_Utf8_c a0.f1) fun (y7 : Bool) =>
        bif (!y7) then
        (some 12)
        else
        (some 0))))
theorem tocsinref04_one_ev (a0 : S79) : OLe (tocsinref04_one_c a0) (tocsinref04_one a0) := by
  unfold tocsinref04_one_c tocsinref04_one
  exact (OLe.bind (tocsinref04_Name_ev _) (fun _ => (OLe.cond (OLe.refl _) (OLe.cond (OLe.refl _) (OLe.cond (OLe.refl _) (OLe.bind (tocsinref01_Utf8_ev _) (fun _ => (OLe.cond (OLe.refl _) (OLe.refl _)))))))))
noncomputable def tocsinref04_Right_l18_c (a0 : List S79) : Int → Option ((Int) ⊕ ((Unit) ⊕ (Int × Int))) := fun s8 =>
  bif (decide (s8 < (a0.length : Int))) then
  (Option.bind (ix a0 s8) fun (x21 : S79) =>
    Option.bind (tocsinref04_one_c x21) fun (y30 : Int) =>
    bif (y30 != 0) then
    (some (Sum.inr (Sum.inr (y30, s8))))
    else
    (Option.bind (bif (decide (s8 > 0)) then
        (Option.bind (ix a0 (IntKind.wrap .i64 (s8 - 1))) fun (x39 : S79) =>
          some (!(Op.bytesLess x39.f0.toList x21.f0.toList)))
        else
        (some false)) fun (j33 : Bool) =>
      bif j33 then
      (some (Sum.inr (Sum.inr (3, s8))))
      else
      (some (Sum.inl (IntKind.wrap .i64 (s8 + 1))))))
  else
  (some (Sum.inr (Sum.inl ())))
theorem tocsinref04_Right_l18_ev (a0 : List S79) (s8 : Int) : OLe (tocsinref04_Right_l18_c a0 s8) (tocsinref04_Right_l18 a0 s8) := by
  unfold tocsinref04_Right_l18_c tocsinref04_Right_l18
  exact (OLe.cond (OLe.bind (OLe.refl _) (fun _ => (OLe.bind (tocsinref04_one_ev _) (fun _ => (OLe.cond (OLe.refl _) (OLe.bind (OLe.cond (OLe.bind (OLe.refl _) (fun _ => (OLe.refl _))) (OLe.refl _)) (fun _ => (OLe.cond (OLe.refl _) (OLe.refl _))))))))) (OLe.refl _))
noncomputable def tocsinref04_Right_c (a0 : List S79) : Option (Int × Int) :=
  bif (decide ((a0.length : Int) > 16)) then
  (some (8, 0))
  else
  (Option.bind (loopF 1000000 (tocsinref04_Right_l18_c a0) 0) fun (r6 : (Unit) ⊕ (Int × Int)) =>
    match r6 with
    | Sum.inl r14 => some (0, 0)
    | Sum.inr v48 => some v48)
theorem tocsinref04_Right_ev (a0 : List S79) : OLe (tocsinref04_Right_c a0) (tocsinref04_Right a0) := by
  unfold tocsinref04_Right_c tocsinref04_Right
  exact (OLe.cond (OLe.refl _) (OLe.bind (OLe.loop (fun _ => tocsinref04_Right_l18_ev _ _)) (fun j => by cases j with | inl a => exact (OLe.refl _) | inr b => exact (OLe.refl _))))
noncomputable def tocsinref04_Compare_l17_c (a0 : List S79) (a1 : List S79) : Int → Option ((Int) ⊕ ((Unit) ⊕ (Int))) := fun s7 =>
  bif ((decide (s7 < (a0.length : Int))) && (decide (s7 < (a1.length : Int)))) then
  (Option.bind (ix a0 s7) fun (x26 : S79) =>
    Option.bind (ix a1 s7) fun (x34 : S79) =>
    bif ((tocsinref04_side x26.f0 x34.f0) != 0) then
    (some (Sum.inr (Sum.inr (tocsinref04_side x26.f0 x34.f0))))
    else
    (Option.bind (ix a0 s7) fun (x43 : S79) =>
      Option.bind (ix a1 s7) fun (x51 : S79) =>
      bif ((tocsinref04_side x43.f1 x51.f1) != 0) then
      (some (Sum.inr (Sum.inr (tocsinref04_side x43.f1 x51.f1))))
      else
      (some (Sum.inl (IntKind.wrap .i64 (s7 + 1))))))
  else
  (some (Sum.inr (Sum.inl ())))
theorem tocsinref04_Compare_l17_ev (a0 : List S79) (a1 : List S79) (s7 : Int) : OLe (tocsinref04_Compare_l17_c a0 a1 s7) (tocsinref04_Compare_l17 a0 a1 s7) := by
  unfold tocsinref04_Compare_l17_c tocsinref04_Compare_l17
  exact (OLe.cond (OLe.bind (OLe.refl _) (fun _ => (OLe.bind (OLe.refl _) (fun _ => (OLe.cond (OLe.refl _) (OLe.bind (OLe.refl _) (fun _ => (OLe.bind (OLe.refl _) (fun _ => (OLe.cond (OLe.refl _) (OLe.refl _))))))))))) (OLe.refl _))
noncomputable def tocsinref04_Compare_c (a0 : List S79) (a1 : List S79) : Option Int :=
  Option.bind (loopF 1000000 (tocsinref04_Compare_l17_c a0 a1) 0) fun (r5 : (Unit) ⊕ (Int)) =>
  match r5 with
  | Sum.inl r13 => bif (decide ((a0.length : Int) < (a1.length : Int))) then
    (some (-1))
    else
    (bif (decide ((a0.length : Int) > (a1.length : Int))) then
      (some 1)
      else
      (some 0))
  | Sum.inr v62 => some v62
theorem tocsinref04_Compare_ev (a0 : List S79) (a1 : List S79) : OLe (tocsinref04_Compare_c a0 a1) (tocsinref04_Compare a0 a1) := by
  unfold tocsinref04_Compare_c tocsinref04_Compare
  exact (OLe.bind (OLe.loop (fun _ => tocsinref04_Compare_l17_ev _ _ _)) (fun j => by cases j with | inl a => exact (OLe.cond (OLe.refl _) (OLe.cond (OLe.refl _) (OLe.refl _))) | inr b => exact (OLe.refl _)))
noncomputable def tocsinref26_rising_l17_c (a0 : List (List S79)) : Int → Option ((Int) ⊕ ((Unit) ⊕ (Bool))) := fun s7 =>
  bif (decide (s7 < (a0.length : Int))) then
  (Option.bind (ix a0 s7) fun (x20 : List S79) =>
    Option.bind (tocsinref04_Right_c x20) fun (y31 : Int × Int) =>
    Option.bind (bif (y31.1 != 0) then
      (some true)
      else
      (bif (decide (s7 > 0)) then
        (Option.bind (ix a0 (IntKind.wrap .i64 (s7 - 1))) fun (x40 : List S79) =>
          Option.bind (tocsinref04_Compare_c x40 x20) fun (y51 : Int) =>
          some (decide (y51 ≥ 0)))
        else
        (some false))) fun (j33 : Bool) =>
    bif j33 then
    (some (Sum.inr (Sum.inr false)))
    else
    (some (Sum.inl (IntKind.wrap .i64 (s7 + 1)))))
  else
  (some (Sum.inr (Sum.inl ())))
theorem tocsinref26_rising_l17_ev (a0 : List (List S79)) (s7 : Int) : OLe (tocsinref26_rising_l17_c a0 s7) (tocsinref26_rising_l17 a0 s7) := by
  unfold tocsinref26_rising_l17_c tocsinref26_rising_l17
  exact (OLe.cond (OLe.bind (OLe.refl _) (fun _ => (OLe.bind (tocsinref04_Right_ev _) (fun _ => (OLe.bind (OLe.cond (OLe.refl _) (OLe.cond (OLe.bind (OLe.refl _) (fun _ => (OLe.bind (tocsinref04_Compare_ev _ _) (fun _ => (OLe.refl _))))) (OLe.refl _))) (fun _ => (OLe.cond (OLe.refl _) (OLe.refl _)))))))) (OLe.refl _))
noncomputable def tocsinref26_rising_c (a0 : List (List S79)) : Option Bool :=
  Option.bind (loopF 1000000 (tocsinref26_rising_l17_c a0) 0) fun (r5 : (Unit) ⊕ (Bool)) =>
  match r5 with
  | Sum.inl r13 => some true
  | Sum.inr v54 => some v54
theorem tocsinref26_rising_ev (a0 : List (List S79)) : OLe (tocsinref26_rising_c a0) (tocsinref26_rising a0) := by
  unfold tocsinref26_rising_c tocsinref26_rising
  exact (OLe.bind (OLe.loop (fun _ => tocsinref26_rising_l17_ev _ _)) (fun j => by cases j with | inl a => exact (OLe.refl _) | inr b => exact (OLe.refl _)))
noncomputable def tocsinref26_Right_c (a0 : S23) : Option Int :=
  Option.bind (bif (a0.f0.toList == (⟨#[]⟩ : ByteArray).toList) then
    (some true)
    else
    (bif (decide ((a0.f0.size : Int) > 64)) then
      (some true)
      else
      (Option.bind (tocsinref01_Utf8_c a0.f0) fun (y9 : Bool) =>
        some (!y9)))) fun (j2 : Bool) =>
  bif j2 then
  (some 204)
  else
  (Option.bind (bif (a0.f1.toList == (⟨#[]⟩ : ByteArray).toList) then
      (some true)
      else
      (bif (decide ((a0.f1.size : Int) > 65536)) then
        (some true)
        else
        (Option.bind (tocsinref01_Utf8_c a0.f1) fun (y19 : Bool) =>
          some (!y19)))) fun (j12 : Bool) =>
    bif j12 then
    (some 40)
    else
    (bif (!(tocsinref26_time a0.f2)) then
      (some 1)
      else
      (bif ((decide ((a0.f3.length : Int) > 500)) || (decide ((a0.f4.length : Int) > 500))) then
        (some 8)
        else
        (Option.bind (Option.bind (tocsinref26_rising_c a0.f3) fun (y35 : Bool) =>
            bif (!y35) then
            (some true)
            else
            (Option.bind (tocsinref26_rising_c a0.f4) fun (y38 : Bool) =>
              some (!y38))) fun (j30 : Bool) =>
          bif j30 then
          (some 41)
          else
          (some 0)))))
theorem tocsinref26_Right_ev (a0 : S23) : OLe (tocsinref26_Right_c a0) (tocsinref26_Right a0) := by
  unfold tocsinref26_Right_c tocsinref26_Right
  exact (OLe.bind (OLe.cond (OLe.refl _) (OLe.cond (OLe.refl _) (OLe.bind (tocsinref01_Utf8_ev _) (fun _ => (OLe.refl _))))) (fun _ => (OLe.cond (OLe.refl _) (OLe.bind (OLe.cond (OLe.refl _) (OLe.cond (OLe.refl _) (OLe.bind (tocsinref01_Utf8_ev _) (fun _ => (OLe.refl _))))) (fun _ => (OLe.cond (OLe.refl _) (OLe.cond (OLe.refl _) (OLe.cond (OLe.refl _) (OLe.bind (OLe.bind (tocsinref26_rising_ev _) (fun _ => (OLe.cond (OLe.refl _) (OLe.bind (tocsinref26_rising_ev _) (fun _ => (OLe.refl _)))))) (fun _ => (OLe.cond (OLe.refl _) (OLe.refl _))))))))))))
noncomputable def tocsinref01_joined_c (a0 : List Int) (a1 : List Int) : Option (List Int) :=
  Option.bind (app ([] : List Int) a0) fun (zs1 : List Int) =>
  Option.bind (app zs1 a1) fun (zs7 : List Int) =>
  some zs7
theorem tocsinref01_joined_ev (a0 : List Int) (a1 : List Int) : OLe (tocsinref01_joined_c a0 a1) (tocsinref01_joined a0 a1) := by
  unfold tocsinref01_joined_c tocsinref01_joined
  exact (OLe.bind (OLe.refl _) (fun _ => (OLe.bind (OLe.refl _) (fun _ => (OLe.refl _)))))
noncomputable def tocsinref01_PutU_l28_c : (Int × (List Int)) → Option ((Int × (List Int)) ⊕ (Int × (List Int))) := fun s11 =>
  bif (decide (s11.1 ≥ 128)) then
  (Option.bind (app s11.2 [(IntKind.wrap .u8 ((IntKind.wrap .u8 (Int.tmod s11.1 128)) + 128))]) fun (zs35 : List Int) =>
    some (Sum.inl ((IntKind.wrap .u64 (Int.tdiv s11.1 128)), zs35)))
  else
  (some (Sum.inr (s11.1, s11.2)))
theorem tocsinref01_PutU_l28_ev  (s11 : Int × (List Int)) : OLe (tocsinref01_PutU_l28_c  s11) (tocsinref01_PutU_l28  s11) := by
  unfold tocsinref01_PutU_l28_c tocsinref01_PutU_l28
  exact (OLe.cond (OLe.bind (OLe.refl _) (fun _ => (OLe.refl _))) (OLe.refl _))
noncomputable def tocsinref01_PutU_c (a0 : List Int) (a1 : Int) : Option (List Int) :=
  Option.bind (loopF 1000000 tocsinref01_PutU_l28_c (a1, [])) fun (r9 : Int × (List Int)) =>
  Option.bind (app r9.2 [(IntKind.wrap .u8 r9.1)]) fun (zs45 : List Int) =>
  Option.bind (tocsinref01_joined_c a0 zs45) fun (y55 : (List Int)) =>
  some y55
theorem tocsinref01_PutU_ev (a0 : List Int) (a1 : Int) : OLe (tocsinref01_PutU_c a0 a1) (tocsinref01_PutU a0 a1) := by
  unfold tocsinref01_PutU_c tocsinref01_PutU
  exact (OLe.bind (OLe.loop (fun _ => tocsinref01_PutU_l28_ev  _)) (fun _ => (OLe.bind (OLe.refl _) (fun _ => (OLe.bind (tocsinref01_joined_ev _ _) (fun _ => (OLe.refl _)))))))
noncomputable def tocsinref01_PutText_c (a0 : List Int) (a1 : ByteArray) : Option (List Int) :=
  Option.bind (tocsinref01_PutU_c a0 (IntKind.wrap .u64 (a1.size : Int))) fun (y1 : (List Int)) =>
  Option.bind (sb a1) fun (l10 : List Int) =>
  Option.bind (tocsinref01_joined_c y1 l10) fun (y21 : (List Int)) =>
  some y21
theorem tocsinref01_PutText_ev (a0 : List Int) (a1 : ByteArray) : OLe (tocsinref01_PutText_c a0 a1) (tocsinref01_PutText a0 a1) := by
  unfold tocsinref01_PutText_c tocsinref01_PutText
  exact (OLe.bind (tocsinref01_PutU_ev _ _) (fun _ => (OLe.bind (OLe.refl _) (fun _ => (OLe.bind (tocsinref01_joined_ev _ _) (fun _ => (OLe.refl _)))))))
noncomputable def tocsinref01_PutI_c (a0 : List Int) (a1 : Int) : Option (List Int) :=
  Option.bind (tocsinref01_PutU_c a0 (tocsinref01_turn a1)) fun (y1 : (List Int)) =>
  some y1
theorem tocsinref01_PutI_ev (a0 : List Int) (a1 : Int) : OLe (tocsinref01_PutI_c a0 a1) (tocsinref01_PutI a0 a1) := by
  unfold tocsinref01_PutI_c tocsinref01_PutI
  exact (OLe.bind (tocsinref01_PutU_ev _ _) (fun _ => (OLe.refl _)))
noncomputable def tocsinref04_Put_l40_c (a1 : List S79) : ((List Int) × Int) → Option (((List Int) × Int) ⊕ ((List Int))) := fun s23 =>
  bif (decide (s23.2 < (a1.length : Int))) then
  (Option.bind (ix a1 s23.2) fun (x43 : S79) =>
    Option.bind (tocsinref01_PutText_c s23.1 x43.f0) fun (y56 : (List Int)) =>
    Option.bind (tocsinref01_PutText_c y56 x43.f1) fun (y69 : (List Int)) =>
    some (Sum.inl (y69, (IntKind.wrap .i64 (s23.2 + 1)))))
  else
  (some (Sum.inr s23.1))
theorem tocsinref04_Put_l40_ev (a1 : List S79) (s23 : (List Int) × Int) : OLe (tocsinref04_Put_l40_c a1 s23) (tocsinref04_Put_l40 a1 s23) := by
  unfold tocsinref04_Put_l40_c tocsinref04_Put_l40
  exact (OLe.cond (OLe.bind (OLe.refl _) (fun _ => (OLe.bind (tocsinref01_PutText_ev _ _) (fun _ => (OLe.bind (tocsinref01_PutText_ev _ _) (fun _ => (OLe.refl _))))))) (OLe.refl _))
noncomputable def tocsinref04_Put_c (a0 : List Int) (a1 : List S79) : Option ((List Int) × Int) :=
  Option.bind (tocsinref04_Right_c a1) fun (y1 : Int × Int) =>
  bif (y1.1 != 0) then
  (some ([], y1.1))
  else
  (Option.bind (tocsinref01_PutU_c a0 (IntKind.wrap .u64 (a1.length : Int))) fun (y4 : (List Int)) =>
    Option.bind (loopF 1000000 (tocsinref04_Put_l40_c a1) (y4, 0)) fun (r21 : (List Int)) =>
    some (r21, 0))
theorem tocsinref04_Put_ev (a0 : List Int) (a1 : List S79) : OLe (tocsinref04_Put_c a0 a1) (tocsinref04_Put a0 a1) := by
  unfold tocsinref04_Put_c tocsinref04_Put
  exact (OLe.bind (tocsinref04_Right_ev _) (fun _ => (OLe.cond (OLe.refl _) (OLe.bind (tocsinref01_PutU_ev _ _) (fun _ => (OLe.bind (OLe.loop (fun _ => tocsinref04_Put_l40_ev _ _)) (fun _ => (OLe.refl _))))))))
noncomputable def tocsinref26_Record_l126_c (x74 : List (List S79)) : ((List Int) × Int) → Option (((List Int) × Int) ⊕ ((List Int))) := fun s109 =>
  bif (decide (s109.2 < (x74.length : Int))) then
  (Option.bind (ix x74 s109.2) fun (x129 : List S79) =>
    Option.bind (tocsinref04_Put_c s109.1 x129) fun (y144 : (List Int) × Int) =>
    some (Sum.inl (y144.1, (IntKind.wrap .i64 (s109.2 + 1)))))
  else
  (some (Sum.inr s109.1))
theorem tocsinref26_Record_l126_ev (x74 : List (List S79)) (s109 : (List Int) × Int) : OLe (tocsinref26_Record_l126_c x74 s109) (tocsinref26_Record_l126 x74 s109) := by
  unfold tocsinref26_Record_l126_c tocsinref26_Record_l126
  exact (OLe.cond (OLe.bind (OLe.refl _) (fun _ => (OLe.bind (tocsinref04_Put_ev _ _) (fun _ => (OLe.refl _))))) (OLe.refl _))
noncomputable def tocsinref26_Record_l71_c (a0 : S23) : ((List Int) × Int) → Option (((List Int) × Int) ⊕ ((List Int))) := fun s54 =>
  bif (decide (s54.2 < ([a0.f3, a0.f4].length : Int))) then
  (Option.bind (ix [a0.f3, a0.f4] s54.2) fun (x74 : List (List S79)) =>
    Option.bind (tocsinref01_PutU_c s54.1 (IntKind.wrap .u64 (x74.length : Int))) fun (y90 : (List Int)) =>
    Option.bind (loopF 1000000 (tocsinref26_Record_l126_c x74) (y90, 0)) fun (r107 : (List Int)) =>
    some (Sum.inl (r107, (IntKind.wrap .i64 (s54.2 + 1)))))
  else
  (some (Sum.inr s54.1))
theorem tocsinref26_Record_l71_ev (a0 : S23) (s54 : (List Int) × Int) : OLe (tocsinref26_Record_l71_c a0 s54) (tocsinref26_Record_l71 a0 s54) := by
  unfold tocsinref26_Record_l71_c tocsinref26_Record_l71
  exact (OLe.cond (OLe.bind (OLe.refl _) (fun _ => (OLe.bind (tocsinref01_PutU_ev _ _) (fun _ => (OLe.bind (OLe.loop (fun _ => tocsinref26_Record_l126_ev _ _)) (fun _ => (OLe.refl _))))))) (OLe.refl _))
noncomputable def tocsinref26_Record_c (a0 : S23) : Option ((List Int) × Int) :=
  Option.bind (tocsinref26_Right_c a0) fun (y2 : Int) =>
  bif (y2 != 0) then
  (some ([], y2))
  else
  (Option.bind (tocsinref01_PutText_c [] a0.f0) fun (y5 : (List Int)) =>
    Option.bind (tocsinref01_PutText_c y5 a0.f1) fun (y18 : (List Int)) =>
    Option.bind (tocsinref01_PutI_c y18 a0.f2) fun (y31 : (List Int)) =>
    Option.bind (loopF 1000000 (tocsinref26_Record_l71_c a0) (y31, 0)) fun (r52 : (List Int)) =>
    some (r52, 0))
theorem tocsinref26_Record_ev (a0 : S23) : OLe (tocsinref26_Record_c a0) (tocsinref26_Record a0) := by
  unfold tocsinref26_Record_c tocsinref26_Record
  exact (OLe.bind (tocsinref26_Right_ev _) (fun _ => (OLe.cond (OLe.refl _) (OLe.bind (tocsinref01_PutText_ev _ _) (fun _ => (OLe.bind (tocsinref01_PutText_ev _ _) (fun _ => (OLe.bind (tocsinref01_PutI_ev _ _) (fun _ => (OLe.bind (OLe.loop (fun _ => tocsinref26_Record_l71_ev _ _)) (fun _ => (OLe.refl _))))))))))))
noncomputable def vint_U_l24_c (a0 : List Int) (a1 : Int) : (Int × Int) → Option ((Int × Int) ⊕ ((Unit) ⊕ (Int × Int × Int))) := fun s14 =>
  bif (decide ((IntKind.wrap .i64 (a1 + s14.2)) ≥ (a0.length : Int))) then
  (some (Sum.inr (Sum.inr (0, 0, 9))))
  else
  (Option.bind (ix a0 (IntKind.wrap .i64 (a1 + s14.2))) fun (x27 : Int) =>
    bif ((s14.2 == 9) && (decide (x27 > 1))) then
    (some (Sum.inr (Sum.inr (0, 0, 7))))
    else
    (bif (((decide (x27 < 128)) && (x27 == 0)) && (decide (s14.2 > 0))) then
      (some (Sum.inr (Sum.inr (0, 0, 3))))
      else
      (Option.bind (shlx .u64 (IntKind.wrap .u64 (bitAnd .u8 x27 127)) (IntKind.wrap .i64 (7 * s14.2))) fun (q50 : Int) =>
        bif (decide (x27 < 128)) then
        (some (Sum.inr (Sum.inr ((bitOr .u64 s14.1 q50), (IntKind.wrap .i64 ((IntKind.wrap .i64 (a1 + s14.2)) + 1)), 0))))
        else
        (some (Sum.inl ((bitOr .u64 s14.1 q50), (IntKind.wrap .i64 (s14.2 + 1))))))))
theorem vint_U_l24_ev (a0 : List Int) (a1 : Int) (s14 : Int × Int) : OLe (vint_U_l24_c a0 a1 s14) (vint_U_l24 a0 a1 s14) := by
  unfold vint_U_l24_c vint_U_l24
  exact (OLe.cond (OLe.refl _) (OLe.bind (OLe.refl _) (fun _ => (OLe.cond (OLe.refl _) (OLe.cond (OLe.refl _) (OLe.bind (OLe.refl _) (fun _ => (OLe.cond (OLe.refl _) (OLe.refl _)))))))))
noncomputable def vint_U_c (a0 : List Int) (a1 : Int) : Option (Int × Int × Int) :=
  bif ((decide (a1 < 0)) || (decide (a1 > (a0.length : Int)))) then
  (some (0, 0, 1))
  else
  (Option.bind (loopF 1000000 (vint_U_l24_c a0 a1) (0, 0)) fun (r12 : (Unit) ⊕ (Int × Int × Int)) =>
    match r12 with
    | Sum.inl r20 => none
    | Sum.inr v53 => some v53)
theorem vint_U_ev (a0 : List Int) (a1 : Int) : OLe (vint_U_c a0 a1) (vint_U a0 a1) := by
  unfold vint_U_c vint_U
  exact (OLe.cond (OLe.refl _) (OLe.bind (OLe.loop (fun _ => vint_U_l24_ev _ _ _)) (fun j => by cases j with | inl a => exact (OLe.refl _) | inr b => exact (OLe.refl _))))
noncomputable def vint_Text_c (a0 : List Int) (a1 : Int) (a2 : Int) : Option (ByteArray × Int × Int) :=
  bif (((decide (a1 < 0)) || (decide (a1 > (a0.length : Int)))) || (decide (a2 < 0))) then
  (some ((⟨#[]⟩ : ByteArray), 0, 1))
  else
  (Option.bind (vint_U_c a0 a1) fun (y9 : Int × Int × Int) =>
    bif (y9.2.2 != 0) then
    (some ((⟨#[]⟩ : ByteArray), 0, y9.2.2))
    else
    (bif (decide (y9.1 > (IntKind.wrap .u64 a2))) then
      (some ((⟨#[]⟩ : ByteArray), 0, 4))
      else
      (bif (decide (y9.1 > (IntKind.wrap .u64 (IntKind.wrap .i64 ((a0.length : Int) - y9.2.1))))) then
        (some ((⟨#[]⟩ : ByteArray), 0, 9))
        else
        (Option.bind (lx a0 y9.2.1 (IntKind.wrap .i64 (y9.2.1 + (IntKind.wrap .i64 y9.1)))) fun (l15 : List Int) =>
          Option.bind (utf8_ValidString_c (ofBytes l15)) fun (y19 : Bool) =>
          bif (!y19) then
          (some ((⟨#[]⟩ : ByteArray), 0, 12))
          else
          (some ((ofBytes l15), (IntKind.wrap .i64 (y9.2.1 + (IntKind.wrap .i64 y9.1))), 0))))))
theorem vint_Text_ev (a0 : List Int) (a1 : Int) (a2 : Int) : OLe (vint_Text_c a0 a1 a2) (vint_Text a0 a1 a2) := by
  unfold vint_Text_c vint_Text
  exact (OLe.cond (OLe.refl _) (OLe.bind (vint_U_ev _ _) (fun _ => (OLe.cond (OLe.refl _) (OLe.cond (OLe.refl _) (OLe.cond (OLe.refl _) (OLe.bind (OLe.refl _) (fun _ => (OLe.bind (utf8_ValidString_ev _) (fun _ => (OLe.cond (OLe.refl _) (OLe.refl _))))))))))))
noncomputable def vint_I_c (a0 : List Int) (a1 : Int) : Option (Int × Int × Int) :=
  Option.bind (vint_U_c a0 a1) fun (y1 : Int × Int × Int) =>
  some ((bitXor .i64 (IntKind.wrap .i64 (shr .u64 y1.1 1)) (IntKind.wrap .i64 (0 - (IntKind.wrap .i64 (bitAnd .u64 y1.1 1))))), y1.2.1, y1.2.2)
theorem vint_I_ev (a0 : List Int) (a1 : Int) : OLe (vint_I_c a0 a1) (vint_I a0 a1) := by
  unfold vint_I_c vint_I
  exact (OLe.bind (vint_U_ev _ _) (fun _ => (OLe.refl _)))
noncomputable def labels_Read_l33_c (a0 : List Int) (y1 : Int × Int × Int) : (Int × (List S79) × Int) → Option ((Int × (List S79) × Int) ⊕ ((Int × (List S79)) ⊕ ((List S79) × Int × Int))) := fun s15 =>
  bif (decide (s15.2.2 < y1.1)) then
  (Option.bind (vint_Text_c a0 s15.1 64) fun (y37 : ByteArray × Int × Int) =>
    bif (y37.2.2 != 0) then
    (some (Sum.inr (Sum.inr ([], 0, y37.2.2))))
    else
    (Option.bind (vint_Text_c a0 y37.2.1 256) fun (y40 : ByteArray × Int × Int) =>
      bif (y40.2.2 != 0) then
      (some (Sum.inr (Sum.inr ([], 0, y40.2.2))))
      else
      (Option.bind (app s15.2.1 [(⟨y37.1, y40.1⟩ : S79)]) fun (zs47 : List S79) =>
        some (Sum.inl (y40.2.1, zs47, (IntKind.wrap .u64 (s15.2.2 + 1)))))))
  else
  (some (Sum.inr (Sum.inl (s15.1, s15.2.1))))
theorem labels_Read_l33_ev (a0 : List Int) (y1 : Int × Int × Int) (s15 : Int × (List S79) × Int) : OLe (labels_Read_l33_c a0 y1 s15) (labels_Read_l33 a0 y1 s15) := by
  unfold labels_Read_l33_c labels_Read_l33
  exact (OLe.cond (OLe.bind (vint_Text_ev _ _ _) (fun _ => (OLe.cond (OLe.refl _) (OLe.bind (vint_Text_ev _ _ _) (fun _ => (OLe.cond (OLe.refl _) (OLe.bind (OLe.refl _) (fun _ => (OLe.refl _))))))))) (OLe.refl _))
noncomputable def labels_Read_c (a0 : List Int) (a1 : Int) : Option ((List S79) × Int × Int) :=
  Option.bind (vint_U_c a0 a1) fun (y1 : Int × Int × Int) =>
  bif (y1.2.2 != 0) then
  (some ([], 0, y1.2.2))
  else
  (bif (decide (y1.1 > 16)) then
    (some ([], 0, 8))
    else
    (Option.bind (loopF 1000000 (labels_Read_l33_c a0 y1) (y1.2.1, [], 0)) fun (r13 : (Int × (List S79)) ⊕ ((List S79) × Int × Int)) =>
      match r13 with
      | Sum.inl r25 => Option.bind (labels_right_c r25.2) fun (y53 : Int) =>
        bif (y53 != 0) then
        (some ([], 0, y53))
        else
        (some (r25.2, r25.1, 0))
      | Sum.inr v56 => some v56))
theorem labels_Read_ev (a0 : List Int) (a1 : Int) : OLe (labels_Read_c a0 a1) (labels_Read a0 a1) := by
  unfold labels_Read_c labels_Read
  exact (OLe.bind (vint_U_ev _ _) (fun _ => (OLe.cond (OLe.refl _) (OLe.cond (OLe.refl _) (OLe.bind (OLe.loop (fun _ => labels_Read_l33_ev _ _ _)) (fun j => by cases j with | inl a => exact (OLe.bind (labels_right_ev _) (fun _ => (OLe.cond (OLe.refl _) (OLe.refl _)))) | inr b => exact (OLe.refl _)))))))
noncomputable def nflog_lists_l38_c (a0 : List Int) (y1 : Int × Int × Int) : (Int × (List (List S79)) × Int) → Option ((Int × (List (List S79)) × Int) ⊕ ((Int × (List (List S79))) ⊕ ((List (List S79)) × Int × Bool))) := fun s20 =>
  bif (decide (s20.2.2 < y1.1)) then
  (Option.bind (labels_Read_c a0 s20.1) fun (y41 : (List S79) × Int × Int) =>
    bif (y41.2.2 != 0) then
    (some (Sum.inr (Sum.inr ([], 0, false))))
    else
    (Option.bind (app s20.2.1 [y41.1]) fun (zs59 : List (List S79)) =>
      some (Sum.inl (y41.2.1, zs59, (IntKind.wrap .u64 (s20.2.2 + 1))))))
  else
  (some (Sum.inr (Sum.inl (s20.1, s20.2.1))))
theorem nflog_lists_l38_ev (a0 : List Int) (y1 : Int × Int × Int) (s20 : Int × (List (List S79)) × Int) : OLe (nflog_lists_l38_c a0 y1 s20) (nflog_lists_l38 a0 y1 s20) := by
  unfold nflog_lists_l38_c nflog_lists_l38
  exact (OLe.cond (OLe.bind (labels_Read_ev _ _) (fun _ => (OLe.cond (OLe.refl _) (OLe.bind (OLe.refl _) (fun _ => (OLe.refl _)))))) (OLe.refl _))
noncomputable def nflog_lists_c (a0 : List Int) (a1 : Int) : Option ((List (List S79)) × Int × Bool) :=
  Option.bind (vint_U_c a0 a1) fun (y1 : Int × Int × Int) =>
  bif ((y1.2.2 != 0) || (decide (y1.1 > 500))) then
  (some ([], 0, false))
  else
  (Option.bind (loopF 1000000 (nflog_lists_l38_c a0 y1) (y1.2.1, [], 0)) fun (r18 : (Int × (List (List S79))) ⊕ ((List (List S79)) × Int × Bool)) =>
    match r18 with
    | Sum.inl r30 => some (r30.2, r30.1, true)
    | Sum.inr v65 => some v65)
theorem nflog_lists_ev (a0 : List Int) (a1 : Int) : OLe (nflog_lists_c a0 a1) (nflog_lists a0 a1) := by
  unfold nflog_lists_c nflog_lists
  exact (OLe.bind (vint_U_ev _ _) (fun _ => (OLe.cond (OLe.refl _) (OLe.bind (OLe.loop (fun _ => nflog_lists_l38_ev _ _ _)) (fun j => by cases j with | inl a => exact (OLe.refl _) | inr b => exact (OLe.refl _))))))
noncomputable def nflog_read_c (a0 : List Int) : Option (S23 × Bool) :=
  Option.bind (vint_Text_c a0 0 64) fun (y3 : ByteArray × Int × Int) =>
  Option.bind (vint_Text_c a0 y3.2.1 65536) fun (y5 : ByteArray × Int × Int) =>
  Option.bind (vint_I_c a0 y5.2.1) fun (y7 : Int × Int × Int) =>
  bif (!((y3.2.2 == 0) && ((y5.2.2 == 0) && (y7.2.2 == 0)))) then
  (some ((⟨y3.1, y5.1, y7.1, [], []⟩ : S23), false))
  else
  (Option.bind (nflog_lists_c a0 y7.2.1) fun (y14 : (List (List S79)) × Int × Bool) =>
    bif (!y14.2.2) then
    (some ((⟨y3.1, y5.1, y7.1, y14.1, []⟩ : S23), false))
    else
    (Option.bind (nflog_lists_c a0 y14.2.1) fun (y29 : (List (List S79)) × Int × Bool) =>
      Option.bind (bif y29.2.2 then
        (some (y29.2.1 == (a0.length : Int)))
        else
        (some false)) fun (j38 : Bool) =>
      some ((⟨y3.1, y5.1, y7.1, y14.1, y29.1⟩ : S23), j38)))
theorem nflog_read_ev (a0 : List Int) : OLe (nflog_read_c a0) (nflog_read a0) := by
  unfold nflog_read_c nflog_read
  exact (OLe.bind (vint_Text_ev _ _ _) (fun _ => (OLe.bind (vint_Text_ev _ _ _) (fun _ => (OLe.bind (vint_I_ev _ _) (fun _ => (OLe.cond (OLe.refl _) (OLe.bind (nflog_lists_ev _ _) (fun _ => (OLe.cond (OLe.refl _) (OLe.bind (nflog_lists_ev _ _) (fun _ => (OLe.bind (OLe.cond (OLe.refl _) (OLe.refl _)) (fun _ => (OLe.refl _)))))))))))))))
noncomputable def nflog_Read_c (a0 : List Int) : Option (S23 × Int) :=
  Option.bind (nflog_read_c a0) fun (y2 : S23 × Bool) =>
  Option.bind (bif (!y2.2) then
    (some true)
    else
    (Option.bind (nflog_Right_c y2.1) fun (y20 : Int) =>
      some (y20 != 0))) fun (j14 : Bool) =>
  bif j14 then
  (some ((⟨(⟨#[]⟩ : ByteArray), (⟨#[]⟩ : ByteArray), 0, [], []⟩ : S23), 3))
  else
  (some (y2.1, 0))
theorem nflog_Read_ev (a0 : List Int) : OLe (nflog_Read_c a0) (nflog_Read a0) := by
  unfold nflog_Read_c nflog_Read
  exact (OLe.bind (nflog_read_ev _) (fun _ => (OLe.bind (OLe.cond (OLe.refl _) (OLe.bind (nflog_Right_ev _) (fun _ => (OLe.refl _)))) (fun _ => (OLe.cond (OLe.refl _) (OLe.refl _))))))
noncomputable def tocsinref01_U_l24_c (a0 : List Int) (a1 : Int) : (Int × Int) → Option ((Int × Int) ⊕ ((Unit) ⊕ (Int × Int × Int))) := fun s14 =>
  bif (decide (s14.2 < 10)) then
  (bif (decide (s14.2 ≥ (IntKind.wrap .i64 ((a0.length : Int) - a1)))) then
    (some (Sum.inr (Sum.inr (0, 0, 9))))
    else
    (Option.bind (ix a0 (IntKind.wrap .i64 (a1 + s14.2))) fun (x28 : Int) =>
      bif ((s14.2 == 9) && (decide (x28 > 1))) then
      (some (Sum.inr (Sum.inr (0, 0, 7))))
      else
      (Option.bind (shlx .u64 (IntKind.wrap .u64 (Int.tmod x28 128)) (IntKind.wrap .u64 (IntKind.wrap .i64 (7 * s14.2)))) fun (q43 : Int) =>
        bif (decide (x28 < 128)) then
        (bif ((x28 == 0) && (decide (s14.2 > 0))) then
          (some (Sum.inr (Sum.inr (0, 0, 3))))
          else
          (some (Sum.inr (Sum.inr ((bitOr .u64 s14.1 q43), (IntKind.wrap .i64 ((IntKind.wrap .i64 (a1 + s14.2)) + 1)), 0)))))
        else
        (some (Sum.inl ((bitOr .u64 s14.1 q43), (IntKind.wrap .i64 (s14.2 + 1))))))))
  else
  (some (Sum.inr (Sum.inl ())))
theorem tocsinref01_U_l24_ev (a0 : List Int) (a1 : Int) (s14 : Int × Int) : OLe (tocsinref01_U_l24_c a0 a1 s14) (tocsinref01_U_l24 a0 a1 s14) := by
  unfold tocsinref01_U_l24_c tocsinref01_U_l24
  exact (OLe.cond (OLe.cond (OLe.refl _) (OLe.bind (OLe.refl _) (fun _ => (OLe.cond (OLe.refl _) (OLe.bind (OLe.refl _) (fun _ => (OLe.cond (OLe.cond (OLe.refl _) (OLe.refl _)) (OLe.refl _)))))))) (OLe.refl _))
noncomputable def tocsinref01_U_c (a0 : List Int) (a1 : Int) : Option (Int × Int × Int) :=
  bif ((decide (a1 < 0)) || (decide (a1 > (a0.length : Int)))) then
  (some (0, 0, 1))
  else
  (Option.bind (loopF 1000000 (tocsinref01_U_l24_c a0 a1) (0, 0)) fun (r12 : (Unit) ⊕ (Int × Int × Int)) =>
    match r12 with
    | Sum.inl r20 => some (0, 0, 7)
    | Sum.inr v53 => some v53)
theorem tocsinref01_U_ev (a0 : List Int) (a1 : Int) : OLe (tocsinref01_U_c a0 a1) (tocsinref01_U a0 a1) := by
  unfold tocsinref01_U_c tocsinref01_U
  exact (OLe.cond (OLe.refl _) (OLe.bind (OLe.loop (fun _ => tocsinref01_U_l24_ev _ _ _)) (fun j => by cases j with | inl a => exact (OLe.refl _) | inr b => exact (OLe.refl _))))
noncomputable def tocsinref01_Text_c (a0 : List Int) (a1 : Int) (a2 : Int) : Option (ByteArray × Int × Int) :=
  bif (((decide (a1 < 0)) || (decide (a1 > (a0.length : Int)))) || (decide (a2 < 0))) then
  (some ((⟨#[]⟩ : ByteArray), 0, 1))
  else
  (Option.bind (tocsinref01_U_c a0 a1) fun (y9 : Int × Int × Int) =>
    bif (y9.2.2 != 0) then
    (some ((⟨#[]⟩ : ByteArray), 0, y9.2.2))
    else
    (bif (decide (y9.1 > (IntKind.wrap .u64 a2))) then
      (some ((⟨#[]⟩ : ByteArray), 0, 4))
      else
      (bif (decide (y9.1 > (IntKind.wrap .u64 (IntKind.wrap .i64 ((a0.length : Int) - y9.2.1))))) then
        (some ((⟨#[]⟩ : ByteArray), 0, 9))
        else
        (Option.bind (lx a0 y9.2.1 (IntKind.wrap .i64 (y9.2.1 + (IntKind.wrap .i64 y9.1)))) fun (l15 : List Int) =>
          Option.bind (tocsinref01_Utf8_c (ofBytes l15)) fun (y19 : Bool) =>
          bif (!y19) then
          (some ((⟨#[]⟩ : ByteArray), 0, 12))
          else
          (some ((ofBytes l15), (IntKind.wrap .i64 (y9.2.1 + (IntKind.wrap .i64 y9.1))), 0))))))
theorem tocsinref01_Text_ev (a0 : List Int) (a1 : Int) (a2 : Int) : OLe (tocsinref01_Text_c a0 a1 a2) (tocsinref01_Text a0 a1 a2) := by
  unfold tocsinref01_Text_c tocsinref01_Text
  exact (OLe.cond (OLe.refl _) (OLe.bind (tocsinref01_U_ev _ _) (fun _ => (OLe.cond (OLe.refl _) (OLe.cond (OLe.refl _) (OLe.cond (OLe.refl _) (OLe.bind (OLe.refl _) (fun _ => (OLe.bind (tocsinref01_Utf8_ev _) (fun _ => (OLe.cond (OLe.refl _) (OLe.refl _))))))))))))
noncomputable def tocsinref01_I_c (a0 : List Int) (a1 : Int) : Option (Int × Int × Int) :=
  Option.bind (tocsinref01_U_c a0 a1) fun (y1 : Int × Int × Int) =>
  bif (y1.2.2 != 0) then
  (some (0, 0, y1.2.2))
  else
  (some ((tocsinref01_back y1.1), y1.2.1, 0))
theorem tocsinref01_I_ev (a0 : List Int) (a1 : Int) : OLe (tocsinref01_I_c a0 a1) (tocsinref01_I a0 a1) := by
  unfold tocsinref01_I_c tocsinref01_I
  exact (OLe.bind (tocsinref01_U_ev _ _) (fun _ => (OLe.cond (OLe.refl _) (OLe.refl _))))
noncomputable def tocsinref04_Read_l33_c (a0 : List Int) (y1 : Int × Int × Int) : (Int × (List S79) × Int) → Option ((Int × (List S79) × Int) ⊕ ((Int × (List S79)) ⊕ ((List S79) × Int × Int))) := fun s15 =>
  bif (decide (s15.2.2 < y1.1)) then
  (Option.bind (tocsinref01_Text_c a0 s15.1 64) fun (y37 : ByteArray × Int × Int) =>
    bif (y37.2.2 != 0) then
    (some (Sum.inr (Sum.inr ([], 0, y37.2.2))))
    else
    (Option.bind (tocsinref01_Text_c a0 y37.2.1 256) fun (y40 : ByteArray × Int × Int) =>
      bif (y40.2.2 != 0) then
      (some (Sum.inr (Sum.inr ([], 0, y40.2.2))))
      else
      (Option.bind (app s15.2.1 [(⟨y37.1, y40.1⟩ : S79)]) fun (zs47 : List S79) =>
        some (Sum.inl (y40.2.1, zs47, (IntKind.wrap .u64 (s15.2.2 + 1)))))))
  else
  (some (Sum.inr (Sum.inl (s15.1, s15.2.1))))
theorem tocsinref04_Read_l33_ev (a0 : List Int) (y1 : Int × Int × Int) (s15 : Int × (List S79) × Int) : OLe (tocsinref04_Read_l33_c a0 y1 s15) (tocsinref04_Read_l33 a0 y1 s15) := by
  unfold tocsinref04_Read_l33_c tocsinref04_Read_l33
  exact (OLe.cond (OLe.bind (tocsinref01_Text_ev _ _ _) (fun _ => (OLe.cond (OLe.refl _) (OLe.bind (tocsinref01_Text_ev _ _ _) (fun _ => (OLe.cond (OLe.refl _) (OLe.bind (OLe.refl _) (fun _ => (OLe.refl _))))))))) (OLe.refl _))
noncomputable def tocsinref04_Read_c (a0 : List Int) (a1 : Int) : Option ((List S79) × Int × Int) :=
  Option.bind (tocsinref01_U_c a0 a1) fun (y1 : Int × Int × Int) =>
  bif (y1.2.2 != 0) then
  (some ([], 0, y1.2.2))
  else
  (bif (decide (y1.1 > 16)) then
    (some ([], 0, 8))
    else
    (Option.bind (loopF 1000000 (tocsinref04_Read_l33_c a0 y1) (y1.2.1, [], 0)) fun (r13 : (Int × (List S79)) ⊕ ((List S79) × Int × Int)) =>
      match r13 with
      | Sum.inl r25 => Option.bind (tocsinref04_Right_c r25.2) fun (y53 : Int × Int) =>
        bif (y53.1 != 0) then
        (some ([], 0, y53.1))
        else
        (some (r25.2, r25.1, 0))
      | Sum.inr v56 => some v56))
theorem tocsinref04_Read_ev (a0 : List Int) (a1 : Int) : OLe (tocsinref04_Read_c a0 a1) (tocsinref04_Read a0 a1) := by
  unfold tocsinref04_Read_c tocsinref04_Read
  exact (OLe.bind (tocsinref01_U_ev _ _) (fun _ => (OLe.cond (OLe.refl _) (OLe.cond (OLe.refl _) (OLe.bind (OLe.loop (fun _ => tocsinref04_Read_l33_ev _ _ _)) (fun j => by cases j with | inl a => exact (OLe.bind (tocsinref04_Right_ev _) (fun _ => (OLe.cond (OLe.refl _) (OLe.refl _)))) | inr b => exact (OLe.refl _)))))))
noncomputable def tocsinref26_Read_l108_c (a0 : List Int) (y67 : Int × Int × Int) : (Int × (List (List S79)) × Int) → Option ((Int × (List (List S79)) × Int) ⊕ ((Int × (List (List S79))) ⊕ (((List (List S79)) × (List (List S79)) × Int × Int) ⊕ ((Int × (List (List S79)) × (List (List S79))) ⊕ (S23 × Int))))) := fun s90 =>
  bif (decide (s90.2.2 < y67.1)) then
  (Option.bind (tocsinref04_Read_c a0 s90.1) fun (y111 : (List S79) × Int × Int) =>
    bif (y111.2.2 != 0) then
    (some (Sum.inr (Sum.inr (Sum.inr (Sum.inr ((⟨(⟨#[]⟩ : ByteArray), (⟨#[]⟩ : ByteArray), 0, [], []⟩ : S23), 3))))))
    else
    (Option.bind (app s90.2.1 [y111.1]) fun (zs133 : List (List S79)) =>
      some (Sum.inl (y111.2.1, zs133, (IntKind.wrap .u64 (s90.2.2 + 1))))))
  else
  (some (Sum.inr (Sum.inl (s90.1, s90.2.1))))
theorem tocsinref26_Read_l108_ev (a0 : List Int) (y67 : Int × Int × Int) (s90 : Int × (List (List S79)) × Int) : OLe (tocsinref26_Read_l108_c a0 y67 s90) (tocsinref26_Read_l108 a0 y67 s90) := by
  unfold tocsinref26_Read_l108_c tocsinref26_Read_l108
  exact (OLe.cond (OLe.bind (tocsinref04_Read_ev _ _) (fun _ => (OLe.cond (OLe.refl _) (OLe.bind (OLe.refl _) (fun _ => (OLe.refl _)))))) (OLe.refl _))
noncomputable def tocsinref26_Read_l64_c (a0 : List Int) : ((List (List S79)) × (List (List S79)) × Int × Int) → Option (((List (List S79)) × (List (List S79)) × Int × Int) ⊕ ((Int × (List (List S79)) × (List (List S79))) ⊕ (S23 × Int))) := fun s38 =>
  bif (decide (s38.2.2.2 < 2)) then
  (Option.bind (tocsinref01_U_c a0 s38.2.2.1) fun (y67 : Int × Int × Int) =>
    bif ((y67.2.2 != 0) || (decide (y67.1 > 500))) then
    (some (Sum.inr (Sum.inr ((⟨(⟨#[]⟩ : ByteArray), (⟨#[]⟩ : ByteArray), 0, [], []⟩ : S23), 3))))
    else
    (Option.bind (loopF 1000000 (tocsinref26_Read_l108_c a0 y67) (y67.2.1, [], 0)) fun (r88 : (Int × (List (List S79))) ⊕ (((List (List S79)) × (List (List S79)) × Int × Int) ⊕ ((Int × (List (List S79)) × (List (List S79))) ⊕ (S23 × Int)))) =>
      match r88 with
      | Sum.inl r100 => Option.bind (bif (s38.2.2.2 == 0) then
          (some (r100.2, s38.2.1))
          else
          (some (s38.1, r100.2))) fun (j139 : (List (List S79)) × (List (List S79))) =>
        some (Sum.inl (j139.1, j139.2, r100.1, (IntKind.wrap .i64 (s38.2.2.2 + 1))))
      | Sum.inr v153 => some v153))
  else
  (some (Sum.inr (Sum.inl (s38.2.2.1, s38.1, s38.2.1))))
theorem tocsinref26_Read_l64_ev (a0 : List Int) (s38 : (List (List S79)) × (List (List S79)) × Int × Int) : OLe (tocsinref26_Read_l64_c a0 s38) (tocsinref26_Read_l64 a0 s38) := by
  unfold tocsinref26_Read_l64_c tocsinref26_Read_l64
  exact (OLe.cond (OLe.bind (tocsinref01_U_ev _ _) (fun _ => (OLe.cond (OLe.refl _) (OLe.bind (OLe.loop (fun _ => tocsinref26_Read_l108_ev _ _ _)) (fun j => by cases j with | inl a => exact (OLe.bind (OLe.cond (OLe.refl _) (OLe.refl _)) (fun _ => (OLe.refl _))) | inr b => exact (OLe.refl _)))))) (OLe.refl _))
noncomputable def tocsinref26_Read_c (a0 : List Int) : Option (S23 × Int) :=
  Option.bind (tocsinref01_Text_c a0 0 64) fun (y3 : ByteArray × Int × Int) =>
  bif (y3.2.2 != 0) then
  (some ((⟨(⟨#[]⟩ : ByteArray), (⟨#[]⟩ : ByteArray), 0, [], []⟩ : S23), 3))
  else
  (Option.bind (tocsinref01_Text_c a0 y3.2.1 65536) fun (y10 : ByteArray × Int × Int) =>
    bif (y10.2.2 != 0) then
    (some ((⟨(⟨#[]⟩ : ByteArray), (⟨#[]⟩ : ByteArray), 0, [], []⟩ : S23), 3))
    else
    (Option.bind (tocsinref01_I_c a0 y10.2.1) fun (y17 : Int × Int × Int) =>
      bif (y17.2.2 != 0) then
      (some ((⟨(⟨#[]⟩ : ByteArray), (⟨#[]⟩ : ByteArray), 0, [], []⟩ : S23), 3))
      else
      (Option.bind (loopF 1000000 (tocsinref26_Read_l64_c a0) ([], [], y17.2.1, 0)) fun (r36 : (Int × (List (List S79)) × (List (List S79))) ⊕ (S23 × Int)) =>
        match r36 with
        | Sum.inl r52 => Option.bind (bif (r52.1 != (a0.length : Int)) then
            (some true)
            else
            (Option.bind (tocsinref26_Right_c (⟨y3.1, y10.1, y17.1, r52.2.1, r52.2.2⟩ : S23)) fun (y160 : Int) =>
              some (y160 != 0))) fun (j154 : Bool) =>
          bif j154 then
          (some ((⟨(⟨#[]⟩ : ByteArray), (⟨#[]⟩ : ByteArray), 0, [], []⟩ : S23), 3))
          else
          (some ((⟨y3.1, y10.1, y17.1, r52.2.1, r52.2.2⟩ : S23), 0))
        | Sum.inr v173 => some v173)))
theorem tocsinref26_Read_ev (a0 : List Int) : OLe (tocsinref26_Read_c a0) (tocsinref26_Read a0) := by
  unfold tocsinref26_Read_c tocsinref26_Read
  exact (OLe.bind (tocsinref01_Text_ev _ _ _) (fun _ => (OLe.cond (OLe.refl _) (OLe.bind (tocsinref01_Text_ev _ _ _) (fun _ => (OLe.cond (OLe.refl _) (OLe.bind (tocsinref01_I_ev _ _) (fun _ => (OLe.cond (OLe.refl _) (OLe.bind (OLe.loop (fun _ => tocsinref26_Read_l64_ev _ _)) (fun j => by cases j with | inl a => exact (OLe.bind (OLe.cond (OLe.refl _) (OLe.bind (tocsinref26_Right_ev _) (fun _ => (OLe.refl _)))) (fun _ => (OLe.cond (OLe.refl _) (OLe.refl _)))) | inr b => exact (OLe.refl _))))))))))))
noncomputable def tocsinref04_Same_c (a0 : List S79) (a1 : List S79) : Option Bool :=
  Option.bind (tocsinref04_Compare_c a0 a1) fun (y1 : Int) =>
  some (y1 == 0)
theorem tocsinref04_Same_ev (a0 : List S79) (a1 : List S79) : OLe (tocsinref04_Same_c a0 a1) (tocsinref04_Same a0 a1) := by
  unfold tocsinref04_Same_c tocsinref04_Same
  exact (OLe.bind (tocsinref04_Compare_ev _ _) (fun _ => (OLe.refl _)))
noncomputable def tocsinref26_SameSets_l18_c (a0 : List (List S79)) (a1 : List (List S79)) : Int → Option ((Int) ⊕ ((Unit) ⊕ (Bool))) := fun s8 =>
  bif (decide (s8 < (a0.length : Int))) then
  (Option.bind (ix a0 s8) fun (x21 : List S79) =>
    Option.bind (ix a1 s8) fun (x32 : List S79) =>
    Option.bind (tocsinref04_Same_c x21 x32) fun (y43 : Bool) =>
    bif (!y43) then
    (some (Sum.inr (Sum.inr false)))
    else
    (some (Sum.inl (IntKind.wrap .i64 (s8 + 1)))))
  else
  (some (Sum.inr (Sum.inl ())))
theorem tocsinref26_SameSets_l18_ev (a0 : List (List S79)) (a1 : List (List S79)) (s8 : Int) : OLe (tocsinref26_SameSets_l18_c a0 a1 s8) (tocsinref26_SameSets_l18 a0 a1 s8) := by
  unfold tocsinref26_SameSets_l18_c tocsinref26_SameSets_l18
  exact (OLe.cond (OLe.bind (OLe.refl _) (fun _ => (OLe.bind (OLe.refl _) (fun _ => (OLe.bind (tocsinref04_Same_ev _ _) (fun _ => (OLe.cond (OLe.refl _) (OLe.refl _)))))))) (OLe.refl _))
noncomputable def tocsinref26_SameSets_c (a0 : List (List S79)) (a1 : List (List S79)) : Option Bool :=
  bif ((a0.length : Int) != (a1.length : Int)) then
  (some false)
  else
  (Option.bind (loopF 1000000 (tocsinref26_SameSets_l18_c a0 a1) 0) fun (r6 : (Unit) ⊕ (Bool)) =>
    match r6 with
    | Sum.inl r14 => some true
    | Sum.inr v46 => some v46)
theorem tocsinref26_SameSets_ev (a0 : List (List S79)) (a1 : List (List S79)) : OLe (tocsinref26_SameSets_c a0 a1) (tocsinref26_SameSets a0 a1) := by
  unfold tocsinref26_SameSets_c tocsinref26_SameSets
  exact (OLe.cond (OLe.refl _) (OLe.bind (OLe.loop (fun _ => tocsinref26_SameSets_l18_ev _ _ _)) (fun j => by cases j with | inl a => exact (OLe.refl _) | inr b => exact (OLe.refl _))))
noncomputable def tocsinref26_Same_c (a0 : S23) (a1 : S23) : Option Bool :=
  Option.bind (bif (a0.f0.toList == a1.f0.toList) then
    (bif (a0.f1.toList == a1.f1.toList) then
      (bif (a0.f2 == a1.f2) then
        (Option.bind (tocsinref26_SameSets_c a0.f3 a1.f3) fun (y11 : Bool) =>
          bif y11 then
          (Option.bind (tocsinref26_SameSets_c a0.f4 a1.f4) fun (y14 : Bool) =>
            some y14)
          else
          (some false))
        else
        (some false))
      else
      (some false))
    else
    (some false)) fun (j3 : Bool) =>
  some j3
theorem tocsinref26_Same_ev (a0 : S23) (a1 : S23) : OLe (tocsinref26_Same_c a0 a1) (tocsinref26_Same a0 a1) := by
  unfold tocsinref26_Same_c tocsinref26_Same
  exact (OLe.bind (OLe.cond (OLe.cond (OLe.cond (OLe.bind (tocsinref26_SameSets_ev _ _) (fun _ => (OLe.cond (OLe.bind (tocsinref26_SameSets_ev _ _) (fun _ => (OLe.refl _))) (OLe.refl _)))) (OLe.refl _)) (OLe.refl _)) (OLe.refl _)) (fun _ => (OLe.refl _)))
noncomputable def slices_IndexFunc_l17_c (a0 : List S86) (a1 : S86 → Option Bool) : Int → Option ((Int) ⊕ ((Unit) ⊕ (Int))) := fun s7 =>
  bif (decide (s7 < (a0.length : Int))) then
  (Option.bind (ix a0 s7) fun (x20 : S86) =>
    Option.bind (a1 x20) fun (y35 : Bool) =>
    bif y35 then
    (some (Sum.inr (Sum.inr s7)))
    else
    (some (Sum.inl (IntKind.wrap .i64 (s7 + 1)))))
  else
  (some (Sum.inr (Sum.inl ())))
theorem slices_IndexFunc_l17_ev (a0 : List S86) {a1 a1' : S86 → Option Bool} (ha1 : ∀ x0, OLe (a1 x0) (a1' x0)) (s7 : Int) : OLe (slices_IndexFunc_l17_c a0 a1 s7) (slices_IndexFunc_l17 a0 a1' s7) := by
  unfold slices_IndexFunc_l17_c slices_IndexFunc_l17
  exact (OLe.cond (OLe.bind (OLe.refl _) (fun _ => (OLe.bind (ha1 _) (fun _ => (OLe.cond (OLe.refl _) (OLe.refl _)))))) (OLe.refl _))
noncomputable def slices_IndexFunc_c (a0 : List S86) (a1 : S86 → Option Bool) : Option Int :=
  Option.bind (loopF 1000000 (slices_IndexFunc_l17_c a0 a1) 0) fun (r5 : (Unit) ⊕ (Int)) =>
  match r5 with
  | Sum.inl r13 => some (-1)
  | Sum.inr v37 => some v37
theorem slices_IndexFunc_ev (a0 : List S86) {a1 a1' : S86 → Option Bool} (ha1 : ∀ x0, OLe (a1 x0) (a1' x0)) : OLe (slices_IndexFunc_c a0 a1) (slices_IndexFunc a0 a1') := by
  unfold slices_IndexFunc_c slices_IndexFunc
  exact (OLe.bind (OLe.loop (fun _ => slices_IndexFunc_l17_ev _ ha1 _)) (fun j => by cases j with | inl a => exact (OLe.refl _) | inr b => exact (OLe.refl _)))
noncomputable def nflog_list_find_c (a0 : S75) (a1 : S82) : Option (Int × Bool) :=
  Option.bind (slices_IndexFunc_c a0.f0 (fun x0 => some (nflog_list_find_1 x0 a1))) fun (y2 : Int) =>
  bif (decide (y2 < 0)) then
  (some ((a0.f0.length : Int), false))
  else
  (Option.bind (ix a0.f0 y2) fun (x5 : S86) =>
    some (y2, ((x5.f0.f0.toList == a1.f0.toList) && (x5.f0.f1.toList == a1.f1.toList))))
theorem nflog_list_find_ev (a0 : S75) (a1 : S82) : OLe (nflog_list_find_c a0 a1) (nflog_list_find a0 a1) := by
  unfold nflog_list_find_c nflog_list_find
  exact (OLe.bind (slices_IndexFunc_ev _ (fun _ => OLe.refl _)) (fun _ => (OLe.cond (OLe.refl _) (OLe.bind (OLe.refl _) (fun _ => (OLe.refl _))))))
noncomputable def slices_Clone_c (a0 : List S79) : Option (List S79) :=
  Option.bind (app ([] : List S79) a0) fun (zs3 : List S79) =>
  some zs3
theorem slices_Clone_ev (a0 : List S79) : OLe (slices_Clone_c a0) (slices_Clone a0) := by
  unfold slices_Clone_c slices_Clone
  exact (OLe.bind (OLe.refl _) (fun _ => (OLe.refl _)))
noncomputable def nflog_sets_l28_c (a0 : List (List S79)) : ((List (List S79)) × Int) → Option (((List (List S79)) × Int) ⊕ ((List (List S79)))) := fun s11 =>
  bif (decide (s11.2 < (a0.length : Int))) then
  (Option.bind (ix a0 s11.2) fun (x31 : List S79) =>
    Option.bind (slices_Clone_c x31) fun (y42 : (List S79)) =>
    Option.bind (app s11.1 [y42]) fun (zs59 : List (List S79)) =>
    some (Sum.inl (zs59, (IntKind.wrap .i64 (s11.2 + 1)))))
  else
  (some (Sum.inr s11.1))
theorem nflog_sets_l28_ev (a0 : List (List S79)) (s11 : (List (List S79)) × Int) : OLe (nflog_sets_l28_c a0 s11) (nflog_sets_l28 a0 s11) := by
  unfold nflog_sets_l28_c nflog_sets_l28
  exact (OLe.cond (OLe.bind (OLe.refl _) (fun _ => (OLe.bind (slices_Clone_ev _) (fun _ => (OLe.bind (OLe.refl _) (fun _ => (OLe.refl _))))))) (OLe.refl _))
noncomputable def nflog_sets_c (a0 : List (List S79)) : Option (List (List S79)) :=
  Option.bind (loopF 1000000 (nflog_sets_l28_c a0) ([], 0)) fun (r9 : (List (List S79))) =>
  some r9
theorem nflog_sets_ev (a0 : List (List S79)) : OLe (nflog_sets_c a0) (nflog_sets a0) := by
  unfold nflog_sets_c nflog_sets
  exact (OLe.bind (OLe.loop (fun _ => nflog_sets_l28_ev _ _)) (fun _ => (OLe.refl _)))
noncomputable def nflog_own_c (a0 : S23) : Option S23 :=
  Option.bind (nflog_sets_c a0.f3) fun (y3 : (List (List S79))) =>
  Option.bind (nflog_sets_c a0.f4) fun (y12 : (List (List S79))) =>
  some (⟨a0.f0, a0.f1, a0.f2, y3, y12⟩ : S23)
theorem nflog_own_ev (a0 : S23) : OLe (nflog_own_c a0) (nflog_own a0) := by
  unfold nflog_own_c nflog_own
  exact (OLe.bind (nflog_sets_ev _) (fun _ => (OLe.bind (nflog_sets_ev _) (fun _ => (OLe.refl _)))))
noncomputable def nflog_Log_Find_c (a0 : S77) (a1 : ByteArray) (a2 : ByteArray) : Option (S23 × Bool) :=
  Option.bind (nflog_list_find_c a0.f0 (⟨a1, a2⟩ : S82)) fun (y2 : Int × Bool) =>
  bif (!y2.2) then
  (some ((⟨(⟨#[]⟩ : ByteArray), (⟨#[]⟩ : ByteArray), 0, [], []⟩ : S23), false))
  else
  (Option.bind (ix a0.f0.f0 y2.1) fun (x12 : S86) =>
    Option.bind (nflog_own_c x12.f1) fun (y27 : S23) =>
    some (y27, true))
theorem nflog_Log_Find_ev (a0 : S77) (a1 : ByteArray) (a2 : ByteArray) : OLe (nflog_Log_Find_c a0 a1 a2) (nflog_Log_Find a0 a1 a2) := by
  unfold nflog_Log_Find_c nflog_Log_Find
  exact (OLe.bind (nflog_list_find_ev _ _) (fun _ => (OLe.cond (OLe.refl _) (OLe.bind (OLe.refl _) (fun _ => (OLe.bind (nflog_own_ev _) (fun _ => (OLe.refl _))))))))
noncomputable def slices_IndexFunc_f108_l17_c (a0 : List (List S79)) (a1 : (List S79) → Option Bool) : Int → Option ((Int) ⊕ ((Unit) ⊕ (Int))) := fun s7 =>
  bif (decide (s7 < (a0.length : Int))) then
  (Option.bind (ix a0 s7) fun (x20 : List S79) =>
    Option.bind (a1 x20) fun (y32 : Bool) =>
    bif y32 then
    (some (Sum.inr (Sum.inr s7)))
    else
    (some (Sum.inl (IntKind.wrap .i64 (s7 + 1)))))
  else
  (some (Sum.inr (Sum.inl ())))
theorem slices_IndexFunc_f108_l17_ev (a0 : List (List S79)) {a1 a1' : (List S79) → Option Bool} (ha1 : ∀ x0, OLe (a1 x0) (a1' x0)) (s7 : Int) : OLe (slices_IndexFunc_f108_l17_c a0 a1 s7) (slices_IndexFunc_f108_l17 a0 a1' s7) := by
  unfold slices_IndexFunc_f108_l17_c slices_IndexFunc_f108_l17
  exact (OLe.cond (OLe.bind (OLe.refl _) (fun _ => (OLe.bind (ha1 _) (fun _ => (OLe.cond (OLe.refl _) (OLe.refl _)))))) (OLe.refl _))
noncomputable def slices_IndexFunc_f108_c (a0 : List (List S79)) (a1 : (List S79) → Option Bool) : Option Int :=
  Option.bind (loopF 1000000 (slices_IndexFunc_f108_l17_c a0 a1) 0) fun (r5 : (Unit) ⊕ (Int)) =>
  match r5 with
  | Sum.inl r13 => some (-1)
  | Sum.inr v34 => some v34
theorem slices_IndexFunc_f108_ev (a0 : List (List S79)) {a1 a1' : (List S79) → Option Bool} (ha1 : ∀ x0, OLe (a1 x0) (a1' x0)) : OLe (slices_IndexFunc_f108_c a0 a1) (slices_IndexFunc_f108 a0 a1') := by
  unfold slices_IndexFunc_f108_c slices_IndexFunc_f108
  exact (OLe.bind (OLe.loop (fun _ => slices_IndexFunc_f108_l17_ev _ ha1 _)) (fun j => by cases j with | inl a => exact (OLe.refl _) | inr b => exact (OLe.refl _)))
noncomputable def slices_ContainsFunc_c (a0 : List (List S79)) (a1 : (List S79) → Option Bool) : Option Bool :=
  Option.bind (slices_IndexFunc_f108_c a0 a1) fun (y1 : Int) =>
  some (decide (y1 ≥ 0))
theorem slices_ContainsFunc_ev (a0 : List (List S79)) {a1 a1' : (List S79) → Option Bool} (ha1 : ∀ x0, OLe (a1 x0) (a1' x0)) : OLe (slices_ContainsFunc_c a0 a1) (slices_ContainsFunc a0 a1') := by
  unfold slices_ContainsFunc_c slices_ContainsFunc
  exact (OLe.bind (slices_IndexFunc_f108_ev _ ha1) (fun _ => (OLe.refl _)))
noncomputable def nflog_right_1_c (a0 : List S79) : Option Bool :=
  Option.bind (labels_Right_c a0) fun (y1 : Int × Int) =>
  some (y1.1 != 0)
theorem nflog_right_1_ev (a0 : List S79) : OLe (nflog_right_1_c a0) (nflog_right_1 a0) := by
  unfold nflog_right_1_c nflog_right_1
  exact (OLe.bind (labels_Right_ev _) (fun _ => (OLe.refl _)))
noncomputable def nflog_right_c (a0 : List (List S79)) : Option Bool :=
  Option.bind (slices_ContainsFunc_c a0 nflog_right_1_c) fun (y1 : Bool) =>
  some (!y1)
theorem nflog_right_ev (a0 : List (List S79)) : OLe (nflog_right_c a0) (nflog_right a0) := by
  unfold nflog_right_c nflog_right
  exact (OLe.bind (slices_ContainsFunc_ev _ (fun _ => nflog_right_1_ev _)) (fun _ => (OLe.refl _)))
noncomputable def nflog_Within_1_c (a0 : List S79) (a1 : List S79) : Option Bool :=
  Option.bind (labels_Compare_c a1 a0) fun (y1 : Int) =>
  some (y1 == 0)
theorem nflog_Within_1_ev (a0 : List S79) (a1 : List S79) : OLe (nflog_Within_1_c a0 a1) (nflog_Within_1 a0 a1) := by
  unfold nflog_Within_1_c nflog_Within_1
  exact (OLe.bind (labels_Compare_ev _ _) (fun _ => (OLe.refl _)))
noncomputable def nflog_Within_l17_c (a0 : List (List S79)) (a1 : List (List S79)) : Int → Option ((Int) ⊕ ((Unit) ⊕ (Bool))) := fun s7 =>
  bif (decide (s7 < (a0.length : Int))) then
  (Option.bind (ix a0 s7) fun (x20 : List S79) =>
    Option.bind (slices_ContainsFunc_c a1 (fun x0 => nflog_Within_1_c x0 x20)) fun (y32 : Bool) =>
    bif (!y32) then
    (some (Sum.inr (Sum.inr false)))
    else
    (some (Sum.inl (IntKind.wrap .i64 (s7 + 1)))))
  else
  (some (Sum.inr (Sum.inl ())))
theorem nflog_Within_l17_ev (a0 : List (List S79)) (a1 : List (List S79)) (s7 : Int) : OLe (nflog_Within_l17_c a0 a1 s7) (nflog_Within_l17 a0 a1 s7) := by
  unfold nflog_Within_l17_c nflog_Within_l17
  exact (OLe.cond (OLe.bind (OLe.refl _) (fun _ => (OLe.bind (slices_ContainsFunc_ev _ (fun _ => nflog_Within_1_ev _ _)) (fun _ => (OLe.cond (OLe.refl _) (OLe.refl _)))))) (OLe.refl _))
noncomputable def nflog_Within_c (a0 : List (List S79)) (a1 : List (List S79)) : Option Bool :=
  Option.bind (loopF 1000000 (nflog_Within_l17_c a0 a1) 0) fun (r5 : (Unit) ⊕ (Bool)) =>
  match r5 with
  | Sum.inl r13 => some true
  | Sum.inr v35 => some v35
theorem nflog_Within_ev (a0 : List (List S79)) (a1 : List (List S79)) : OLe (nflog_Within_c a0 a1) (nflog_Within a0 a1) := by
  unfold nflog_Within_c nflog_Within
  exact (OLe.bind (OLe.loop (fun _ => nflog_Within_l17_ev _ _ _)) (fun j => by cases j with | inl a => exact (OLe.refl _) | inr b => exact (OLe.refl _)))
noncomputable def nflog_Needs_c (a0 : S23) (a1 : Bool) (a2 : Int) (a3 : Int) (a4 : List (List S79)) (a5 : List (List S79)) : Option (Bool × Int) :=
  bif ((((decide (a2 < 0)) || (decide (a2 > 1125899906842624))) || (decide (a3 < 1))) || (decide (a3 > 1099511627776))) then
  (some (false, 1))
  else
  (Option.bind (Option.bind (nflog_right_c a4) fun (y16 : Bool) =>
      bif (!y16) then
      (some true)
      else
      (Option.bind (nflog_right_c a5) fun (y19 : Bool) =>
        some (!y19))) fun (j11 : Bool) =>
    bif j11 then
    (some (false, 41))
    else
    (bif (!a1) then
      (some ((decide ((a4.length : Int) > 0)), 0))
      else
      (Option.bind (nflog_Right_c a0) fun (y23 : Int) =>
        bif (y23 != 0) then
        (some (false, y23))
        else
        (Option.bind (nflog_Within_c a4 a0.f3) fun (y26 : Bool) =>
          bif (!y26) then
          (some (true, 0))
          else
          (bif ((a4.length : Int) == 0) then
            (some ((decide ((a0.f3.length : Int) > 0)), 0))
            else
            (Option.bind (nflog_Within_c a5 a0.f4) fun (y30 : Bool) =>
              bif (!y30) then
              (some (true, 0))
              else
              (some ((decide (a0.f2 ≤ (IntKind.wrap .i64 (a2 - a3)))), 0))))))))
theorem nflog_Needs_ev (a0 : S23) (a1 : Bool) (a2 : Int) (a3 : Int) (a4 : List (List S79)) (a5 : List (List S79)) : OLe (nflog_Needs_c a0 a1 a2 a3 a4 a5) (nflog_Needs a0 a1 a2 a3 a4 a5) := by
  unfold nflog_Needs_c nflog_Needs
  exact (OLe.cond (OLe.refl _) (OLe.bind (OLe.bind (nflog_right_ev _) (fun _ => (OLe.cond (OLe.refl _) (OLe.bind (nflog_right_ev _) (fun _ => (OLe.refl _)))))) (fun _ => (OLe.cond (OLe.refl _) (OLe.cond (OLe.refl _) (OLe.bind (nflog_Right_ev _) (fun _ => (OLe.cond (OLe.refl _) (OLe.bind (nflog_Within_ev _ _) (fun _ => (OLe.cond (OLe.refl _) (OLe.cond (OLe.refl _) (OLe.bind (nflog_Within_ev _ _) (fun _ => (OLe.cond (OLe.refl _) (OLe.refl _))))))))))))))))
noncomputable def nflog_Log_Needs_c (a0 : S77) (a1 : ByteArray) (a2 : ByteArray) (a3 : Int) (a4 : Int) (a5 : List (List S79)) (a6 : List (List S79)) : Option (Bool × Int) :=
  Option.bind (nflog_Log_Find_c a0 a1 a2) fun (y1 : S23 × Bool) =>
  Option.bind (nflog_Needs_c y1.1 y1.2 a3 a4 a5 a6) fun (y13 : Bool × Int) =>
  some (y13.1, y13.2)
theorem nflog_Log_Needs_ev (a0 : S77) (a1 : ByteArray) (a2 : ByteArray) (a3 : Int) (a4 : Int) (a5 : List (List S79)) (a6 : List (List S79)) : OLe (nflog_Log_Needs_c a0 a1 a2 a3 a4 a5 a6) (nflog_Log_Needs a0 a1 a2 a3 a4 a5 a6) := by
  unfold nflog_Log_Needs_c nflog_Log_Needs
  exact (OLe.bind (nflog_Log_Find_ev _ _ _) (fun _ => (OLe.bind (nflog_Needs_ev _ _ _ _ _ _) (fun _ => (OLe.refl _)))))
noncomputable def nflog_list_put_c (a0 : S75) (a1 : S82) (a2 : S23) : Option S75 :=
  Option.bind (nflog_list_find_c a0 a1) fun (y3 : Int × Bool) =>
  bif y3.2 then
  (Option.bind (ix a0.f0 y3.1) fun (x9 : S86) =>
    some (⟨(lset a0.f0 y3.1 (⟨x9.f0, a2⟩ : S86))⟩ : S75))
  else
  (Option.bind (linsert a0.f0 y3.1 (⟨(⟨a1.f0, a1.f1⟩ : S82), (⟨a2.f0, a2.f1, a2.f2, a2.f3, a2.f4⟩ : S23)⟩ : S86)) fun (zs31 : List S86) =>
    some (⟨zs31⟩ : S75))
theorem nflog_list_put_ev (a0 : S75) (a1 : S82) (a2 : S23) : OLe (nflog_list_put_c a0 a1 a2) (nflog_list_put a0 a1 a2) := by
  unfold nflog_list_put_c nflog_list_put
  exact (OLe.bind (nflog_list_find_ev _ _) (fun _ => (OLe.cond (OLe.bind (OLe.refl _) (fun _ => (OLe.refl _))) (OLe.bind (OLe.refl _) (fun _ => (OLe.refl _))))))
noncomputable def nflog_Log_Put_c (a0 : S77) (a1 : S23) : Option (Int × S77) :=
  Option.bind (nflog_Right_c a1) fun (y2 : Int) =>
  bif (y2 != 0) then
  (some (y2, a0))
  else
  (Option.bind (nflog_Log_Find_c a0 a1.f0 a1.f1) fun (y5 : S23 × Bool) =>
    bif (y5.2 && (decide (y5.1.f2 > a1.f2))) then
    (some (90, a0))
    else
    (Option.bind (bif (!y5.2) then
        (some (decide ((nflog_Log_Len a0) ≥ 500)))
        else
        (some false)) fun (j24 : Bool) =>
      bif j24 then
      (some (8, a0))
      else
      (Option.bind (nflog_own_c a1) fun (y34 : S23) =>
        Option.bind (nflog_list_put_c a0.f0 (⟨a1.f0, a1.f1⟩ : S82) y34) fun (y45 : S75) =>
        some (0, (⟨(⟨y45.f0⟩ : S75)⟩ : S77)))))
theorem nflog_Log_Put_ev (a0 : S77) (a1 : S23) : OLe (nflog_Log_Put_c a0 a1) (nflog_Log_Put a0 a1) := by
  unfold nflog_Log_Put_c nflog_Log_Put
  exact (OLe.bind (nflog_Right_ev _) (fun _ => (OLe.cond (OLe.refl _) (OLe.bind (nflog_Log_Find_ev _ _ _) (fun _ => (OLe.cond (OLe.refl _) (OLe.bind (OLe.cond (OLe.refl _) (OLe.refl _)) (fun _ => (OLe.cond (OLe.refl _) (OLe.bind (nflog_own_ev _) (fun _ => (OLe.bind (nflog_list_put_ev _ _ _) (fun _ => (OLe.refl _))))))))))))))
noncomputable def tocsinlaw26_awake_c : Option Bool :=
  Option.bind (nflog_Log_Needs_c (⟨(⟨nflog_New.f0.f0⟩ : S75)⟩ : S77) (⟨#[116, 101, 97, 109]⟩ : ByteArray) (⟨#[107]⟩ : ByteArray) 100 50 [[(⟨(⟨#[97]⟩ : ByteArray), (⟨#[49]⟩ : ByteArray)⟩ : S79)]] []) fun (y25 : Bool × Int) =>
  Option.bind (nflog_Log_Put_c (⟨(⟨nflog_New.f0.f0⟩ : S75)⟩ : S77) (⟨(⟨#[116, 101, 97, 109]⟩ : ByteArray), (⟨#[107]⟩ : ByteArray), 100, [[(⟨(⟨#[97]⟩ : ByteArray), (⟨#[49]⟩ : ByteArray)⟩ : S79)]], []⟩ : S23)) fun (y30 : Int × S77) =>
  Option.bind (nflog_Log_Needs_c y30.2 (⟨#[116, 101, 97, 109]⟩ : ByteArray) (⟨#[107]⟩ : ByteArray) 120 50 [[(⟨(⟨#[97]⟩ : ByteArray), (⟨#[49]⟩ : ByteArray)⟩ : S79)]] []) fun (y39 : Bool × Int) =>
  Option.bind (nflog_Log_Needs_c y30.2 (⟨#[116, 101, 97, 109]⟩ : ByteArray) (⟨#[107]⟩ : ByteArray) 150 50 [[(⟨(⟨#[97]⟩ : ByteArray), (⟨#[49]⟩ : ByteArray)⟩ : S79)]] []) fun (y44 : Bool × Int) =>
  some ((((((y25.1 && (y25.2 == 0)) && (y30.1 == 0)) && (!y39.1)) && (y39.2 == 0)) && y44.1) && (y44.2 == 0))
theorem tocsinlaw26_awake_ev  : OLe (tocsinlaw26_awake_c ) (tocsinlaw26_awake ) := by
  unfold tocsinlaw26_awake_c tocsinlaw26_awake
  exact (OLe.bind (nflog_Log_Needs_ev _ _ _ _ _ _ _) (fun _ => (OLe.bind (nflog_Log_Put_ev _ _) (fun _ => (OLe.bind (nflog_Log_Needs_ev _ _ _ _ _ _ _) (fun _ => (OLe.bind (nflog_Log_Needs_ev _ _ _ _ _ _ _) (fun _ => (OLe.refl _)))))))))
noncomputable def tocsinlaw26_NflogRecords_c (a0 : S23) (a1 : List Int) : Option Bool :=
  Option.bind (tocsinlaw26_mark_c a0) fun (y2 : S23) =>
  Option.bind (nflog_Record_c y2) fun (y14 : (List Int) × Int) =>
  Option.bind (tocsinref26_Record_c a0) fun (y23 : (List Int) × Int) =>
  Option.bind (nflog_Read_c a1) fun (y32 : S23 × Int) =>
  Option.bind (tocsinref26_Read_c a1) fun (y44 : S23 × Int) =>
  Option.bind (bif (!((ofBytes y14.1).toList == (ofBytes y23.1).toList)) then
    (some true)
    else
    (bif (y14.2 != y23.2) then
      (some true)
      else
      (Option.bind (tocsinref26_Same_c y2 a0) fun (y63 : Bool) =>
        bif (!y63) then
        (some true)
        else
        (Option.bind (tocsinref26_Same_c y32.1 y44.1) fun (y66 : Bool) =>
          bif (!y66) then
          (some true)
          else
          (some (y32.2 != y44.2)))))) fun (j56 : Bool) =>
  bif j56 then
  (some false)
  else
  (bif (y14.2 != 0) then
    (Option.bind tocsinlaw26_awake_c fun (y71 : Bool) =>
      some y71)
    else
    (Option.bind (nflog_Read_c y14.1) fun (y77 : S23 × Int) =>
      Option.bind (bif (y77.2 == 0) then
        (Option.bind (tocsinref26_Same_c y77.1 a0) fun (y95 : Bool) =>
          bif y95 then
          (Option.bind tocsinlaw26_awake_c fun (y98 : Bool) =>
            some y98)
          else
          (some false))
        else
        (some false)) fun (j89 : Bool) =>
      some j89))
theorem tocsinlaw26_NflogRecords_ev (a0 : S23) (a1 : List Int) : OLe (tocsinlaw26_NflogRecords_c a0 a1) (tocsinlaw26_NflogRecords a0 a1) := by
  unfold tocsinlaw26_NflogRecords_c tocsinlaw26_NflogRecords
  exact (OLe.bind (tocsinlaw26_mark_ev _) (fun _ => (OLe.bind (nflog_Record_ev _) (fun _ => (OLe.bind (tocsinref26_Record_ev _) (fun _ => (OLe.bind (nflog_Read_ev _) (fun _ => (OLe.bind (tocsinref26_Read_ev _) (fun _ => (OLe.bind (OLe.cond (OLe.refl _) (OLe.cond (OLe.refl _) (OLe.bind (tocsinref26_Same_ev _ _) (fun _ => (OLe.cond (OLe.refl _) (OLe.bind (tocsinref26_Same_ev _ _) (fun _ => (OLe.cond (OLe.refl _) (OLe.refl _))))))))) (fun _ => (OLe.cond (OLe.refl _) (OLe.cond (OLe.bind (tocsinlaw26_awake_ev ) (fun _ => (OLe.refl _))) (OLe.bind (nflog_Read_ev _) (fun _ => (OLe.bind (OLe.cond (OLe.bind (tocsinref26_Same_ev _ _) (fun _ => (OLe.cond (OLe.bind (tocsinlaw26_awake_ev ) (fun _ => (OLe.refl _))) (OLe.refl _)))) (OLe.refl _)) (fun _ => (OLe.refl _)))))))))))))))))))
end Go.Proofs.YtlkmfhccpcncnaaDoor
