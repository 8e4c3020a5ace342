import Derived.Test.YtjkkmbjkndageaaDoorF1
import Derived.Test.YtjkkmbjkndageaaDoorGB13
import Derived.KernelRfl
import Derived.Lib.LaidU8T
import Derived.Shelf.Unicode.ValidAny
set_option linter.unusedVariables false
set_option linter.unusedSimpArgs false
set_option maxRecDepth 100000
namespace Go.Proofs.YtjkkmbjkndageaaDoor
open Go.GB
noncomputable def utf8_ValidString_c (a0 : ByteArray) : Option Bool := utf8_ValidString a0
theorem utf8_ValidString_ev (a0 : ByteArray) : OLe (utf8_ValidString_c a0) (utf8_ValidString a0) := OLe.refl _
noncomputable def nflog_text_c (a0 : ByteArray) (a1 : Int) : Option Bool :=
  Option.bind (bif (decide ((a0.size : Int) ≥ 1)) then
    (bif (decide ((a0.size : Int) ≤ a1)) then
      (Option.bind (utf8_ValidString_c a0) fun (y8 : Bool) =>
        some y8)
      else
      (some false))
    else
    (some false)) fun (j1 : Bool) =>
  some j1
theorem nflog_text_ev (a0 : ByteArray) (a1 : Int) : OLe (nflog_text_c a0 a1) (nflog_text a0 a1) := by
  unfold nflog_text_c nflog_text
  exact (OLe.bind (OLe.cond (OLe.cond (OLe.bind (utf8_ValidString_ev _) (fun _ => (OLe.refl _))) (OLe.refl _)) (OLe.refl _)) (fun _ => (OLe.refl _)))
noncomputable def labels_named_l33_c (a2 : Bool) (l11 : List Int) : Int → Option ((Int) ⊕ ((Unit) ⊕ (Bool))) := fun s23 =>
  bif (decide (s23 < (l11.length : Int))) then
  (Option.bind (ix l11 s23) fun (x36 : Int) =>
    bif (((!(labels_letter x36)) && (!(labels_digit x36))) && (!(a2 && (x36 == 58)))) then
    (some (Sum.inr (Sum.inr false)))
    else
    (some (Sum.inl (IntKind.wrap .i64 (s23 + 1)))))
  else
  (some (Sum.inr (Sum.inl ())))
theorem labels_named_l33_ev (a2 : Bool) (l11 : List Int) (s23 : Int) : OLe (labels_named_l33_c a2 l11 s23) (labels_named_l33 a2 l11 s23) := by
  unfold labels_named_l33_c labels_named_l33
  exact (OLe.cond (OLe.bind (OLe.refl _) (fun _ => (OLe.cond (OLe.refl _) (OLe.refl _)))) (OLe.refl _))
noncomputable def labels_named_c (a0 : ByteArray) (a1 : Int) (a2 : Bool) : Option Bool :=
  Option.bind (bif (a0.toList == (⟨#[]⟩ : ByteArray).toList) then
    (some true)
    else
    (bif (decide ((a0.size : Int) > a1)) then
      (some true)
      else
      (Option.bind (bx a0 0) fun (c8 : Int) =>
        some (labels_digit c8)))) fun (j1 : Bool) =>
  bif j1 then
  (some false)
  else
  (Option.bind (sb a0) fun (l11 : List Int) =>
    Option.bind (loopF 1000000 (labels_named_l33_c a2 l11) 0) fun (r21 : (Unit) ⊕ (Bool)) =>
    match r21 with
    | Sum.inl r29 => some true
    | Sum.inr v54 => some v54)
theorem labels_named_ev (a0 : ByteArray) (a1 : Int) (a2 : Bool) : OLe (labels_named_c a0 a1 a2) (labels_named a0 a1 a2) := by
  unfold labels_named_c labels_named
  exact (OLe.bind (OLe.cond (OLe.refl _) (OLe.cond (OLe.refl _) (OLe.bind (OLe.refl _) (fun _ => (OLe.refl _))))) (fun _ => (OLe.cond (OLe.refl _) (OLe.bind (OLe.refl _) (fun _ => (OLe.bind (OLe.loop (fun _ => labels_named_l33_ev _ _ _)) (fun j => by cases j with | inl a => exact (OLe.refl _) | inr b => exact (OLe.refl _))))))))
noncomputable def labels_Name_c (a0 : ByteArray) : Option Bool :=
  Option.bind (labels_named_c a0 64 false) fun (y1 : Bool) =>
  some y1
theorem labels_Name_ev (a0 : ByteArray) : OLe (labels_Name_c a0) (labels_Name a0) := by
  unfold labels_Name_c labels_Name
  exact (OLe.bind (labels_named_ev _ _ _) (fun _ => (OLe.refl _)))
noncomputable def labels_value_c (a0 : ByteArray) : Option Int :=
  bif (a0.toList == (⟨#[]⟩ : ByteArray).toList) then
  (some 41)
  else
  (bif (decide ((a0.size : Int) > 256)) then
    (some 4)
    else
    (Option.bind (utf8_ValidString_c a0) fun (y3 : Bool) =>
      bif (!y3) then
      (some 12)
      else
      (some 0)))
theorem labels_value_ev (a0 : ByteArray) : OLe (labels_value_c a0) (labels_value a0) := by
  unfold labels_value_c labels_value
  exact (OLe.cond (OLe.refl _) (OLe.cond (OLe.refl _) (OLe.bind (utf8_ValidString_ev _) (fun _ => (OLe.cond (OLe.refl _) (OLe.refl _))))))
noncomputable def labels_Right_l18_c (a0 : List S53) : Int → Option ((Int) ⊕ ((Unit) ⊕ (Int × Int))) := fun s8 =>
  bif (decide (s8 < (a0.length : Int))) then
  (Option.bind (ix a0 s8) fun (x21 : S53) =>
    Option.bind (labels_Name_c x21.f0) fun (y30 : Bool) =>
    bif (!y30) then
    (some (Sum.inr (Sum.inr (40, s8))))
    else
    (Option.bind (labels_value_c x21.f1) fun (y33 : Int) =>
      bif (y33 != 0) then
      (some (Sum.inr (Sum.inr (y33, s8))))
      else
      (Option.bind (bif (decide (s8 > 0)) then
          (Option.bind (ix a0 (IntKind.wrap .i64 (s8 - 1))) fun (x42 : S53) =>
            some ((Op.bytesLess x21.f0.toList x42.f0.toList) || (x21.f0.toList == x42.f0.toList)))
          else
          (some false)) fun (j36 : Bool) =>
        bif j36 then
        (some (Sum.inr (Sum.inr (3, s8))))
        else
        (some (Sum.inl (IntKind.wrap .i64 (s8 + 1)))))))
  else
  (some (Sum.inr (Sum.inl ())))
theorem labels_Right_l18_ev (a0 : List S53) (s8 : Int) : OLe (labels_Right_l18_c a0 s8) (labels_Right_l18 a0 s8) := by
  unfold labels_Right_l18_c labels_Right_l18
  exact (OLe.cond (OLe.bind (OLe.refl _) (fun _ => (OLe.bind (labels_Name_ev _) (fun _ => (OLe.cond (OLe.refl _) (OLe.bind (labels_value_ev _) (fun _ => (OLe.cond (OLe.refl _) (OLe.bind (OLe.cond (OLe.bind (OLe.refl _) (fun _ => (OLe.refl _))) (OLe.refl _)) (fun _ => (OLe.cond (OLe.refl _) (OLe.refl _)))))))))))) (OLe.refl _))
noncomputable def labels_Right_c (a0 : List S53) : Option (Int × Int) :=
  bif (decide ((a0.length : Int) > 16)) then
  (some (8, 0))
  else
  (Option.bind (loopF 1000000 (labels_Right_l18_c a0) 0) fun (r6 : (Unit) ⊕ (Int × Int)) =>
    match r6 with
    | Sum.inl r14 => some (0, 0)
    | Sum.inr v51 => some v51)
theorem labels_Right_ev (a0 : List S53) : OLe (labels_Right_c a0) (labels_Right a0) := by
  unfold labels_Right_c labels_Right
  exact (OLe.cond (OLe.refl _) (OLe.bind (OLe.loop (fun _ => labels_Right_l18_ev _ _)) (fun j => by cases j with | inl a => exact (OLe.refl _) | inr b => exact (OLe.refl _))))
noncomputable def slices_CompareFunc_l17_c (a0 : List S53) (a1 : List S53) (a2 : S53 → S53 → Option Int) : Int → Option ((Int) ⊕ ((Unit) ⊕ (Int))) := fun s7 =>
  bif (decide (s7 < (a0.length : Int))) then
  (Option.bind (ix a0 s7) fun (x20 : S53) =>
    bif (decide (s7 ≥ (a1.length : Int))) then
    (some (Sum.inr (Sum.inr 1)))
    else
    (Option.bind (ix a1 s7) fun (x30 : S53) =>
      Option.bind (a2 x20 x30) fun (y40 : Int) =>
      bif (y40 != 0) then
      (some (Sum.inr (Sum.inr y40)))
      else
      (some (Sum.inl (IntKind.wrap .i64 (s7 + 1))))))
  else
  (some (Sum.inr (Sum.inl ())))
theorem slices_CompareFunc_l17_ev (a0 : List S53) (a1 : List S53) {a2 a2' : S53 → S53 → Option Int} (ha2 : ∀ x0 x1, OLe (a2 x0 x1) (a2' x0 x1)) (s7 : Int) : OLe (slices_CompareFunc_l17_c a0 a1 a2 s7) (slices_CompareFunc_l17 a0 a1 a2' s7) := by
  unfold slices_CompareFunc_l17_c slices_CompareFunc_l17
  exact (OLe.cond (OLe.bind (OLe.refl _) (fun _ => (OLe.cond (OLe.refl _) (OLe.bind (OLe.refl _) (fun _ => (OLe.bind (ha2 _ _) (fun _ => (OLe.cond (OLe.refl _) (OLe.refl _))))))))) (OLe.refl _))
noncomputable def slices_CompareFunc_c (a0 : List S53) (a1 : List S53) (a2 : S53 → S53 → Option Int) : Option Int :=
  Option.bind (loopF 1000000 (slices_CompareFunc_l17_c a0 a1 a2) 0) fun (r5 : (Unit) ⊕ (Int)) =>
  match r5 with
  | Sum.inl r13 => bif (decide ((a0.length : Int) < (a1.length : Int))) then
    (some (-1))
    else
    (some 0)
  | Sum.inr v43 => some v43
theorem slices_CompareFunc_ev (a0 : List S53) (a1 : List S53) {a2 a2' : S53 → S53 → Option Int} (ha2 : ∀ x0 x1, OLe (a2 x0 x1) (a2' x0 x1)) : OLe (slices_CompareFunc_c a0 a1 a2) (slices_CompareFunc a0 a1 a2') := by
  unfold slices_CompareFunc_c slices_CompareFunc
  exact (OLe.bind (OLe.loop (fun _ => slices_CompareFunc_l17_ev _ _ ha2 _)) (fun j => by cases j with | inl a => exact (OLe.cond (OLe.refl _) (OLe.refl _)) | inr b => exact (OLe.refl _)))
noncomputable def labels_Compare_c (a0 : List S53) (a1 : List S53) : Option Int :=
  Option.bind (slices_CompareFunc_c a0 a1 (fun x0 x1 => some (labels_Compare_1 x0 x1))) fun (y1 : Int) =>
  some y1
theorem labels_Compare_ev (a0 : List S53) (a1 : List S53) : OLe (labels_Compare_c a0 a1) (labels_Compare a0 a1) := by
  unfold labels_Compare_c labels_Compare
  exact (OLe.bind (slices_CompareFunc_ev _ _ (fun _ _ => OLe.refl _)) (fun _ => (OLe.refl _)))
noncomputable def nflog_rising_l17_c (a0 : List (List S53)) : Int → Option ((Int) ⊕ ((Unit) ⊕ (Bool))) := fun s7 =>
  bif (decide (s7 < (a0.length : Int))) then
  (Option.bind (ix a0 s7) fun (x20 : List S53) =>
    Option.bind (labels_Right_c x20) fun (y31 : Int × Int) =>
    Option.bind (bif (y31.1 != 0) then
      (some true)
      else
      (bif (decide (s7 > 0)) then
        (Option.bind (ix a0 (IntKind.wrap .i64 (s7 - 1))) fun (x40 : List S53) =>
          Option.bind (labels_Compare_c x40 x20) fun (y51 : Int) =>
          some (decide (y51 ≥ 0)))
        else
        (some false))) fun (j33 : Bool) =>
    bif j33 then
    (some (Sum.inr (Sum.inr false)))
    else
    (some (Sum.inl (IntKind.wrap .i64 (s7 + 1)))))
  else
  (some (Sum.inr (Sum.inl ())))
theorem nflog_rising_l17_ev (a0 : List (List S53)) (s7 : Int) : OLe (nflog_rising_l17_c a0 s7) (nflog_rising_l17 a0 s7) := by
  unfold nflog_rising_l17_c nflog_rising_l17
  exact (OLe.cond (OLe.bind (OLe.refl _) (fun _ => (OLe.bind (labels_Right_ev _) (fun _ => (OLe.bind (OLe.cond (OLe.refl _) (OLe.cond (OLe.bind (OLe.refl _) (fun _ => (OLe.bind (labels_Compare_ev _ _) (fun _ => (OLe.refl _))))) (OLe.refl _))) (fun _ => (OLe.cond (OLe.refl _) (OLe.refl _)))))))) (OLe.refl _))
noncomputable def nflog_rising_c (a0 : List (List S53)) : Option Bool :=
  Option.bind (loopF 1000000 (nflog_rising_l17_c a0) 0) fun (r5 : (Unit) ⊕ (Bool)) =>
  match r5 with
  | Sum.inl r13 => some true
  | Sum.inr v54 => some v54
theorem nflog_rising_ev (a0 : List (List S53)) : OLe (nflog_rising_c a0) (nflog_rising a0) := by
  unfold nflog_rising_c nflog_rising
  exact (OLe.bind (OLe.loop (fun _ => nflog_rising_l17_ev _ _)) (fun j => by cases j with | inl a => exact (OLe.refl _) | inr b => exact (OLe.refl _)))
noncomputable def nflog_Right_c (a0 : S23) : Option Int :=
  Option.bind (nflog_text_c a0.f0 64) fun (y2 : Bool) =>
  bif (!y2) then
  (some 204)
  else
  (Option.bind (nflog_text_c a0.f1 65536) fun (y5 : Bool) =>
    bif (!y5) then
    (some 40)
    else
    (bif ((decide (a0.f2 < 0)) || (decide (a0.f2 > 1125899906842624))) then
      (some 1)
      else
      (bif ((decide ((a0.f3.length : Int) > 500)) || (decide ((a0.f4.length : Int) > 500))) then
        (some 8)
        else
        (Option.bind (Option.bind (nflog_rising_c a0.f3) fun (y27 : Bool) =>
            bif (!y27) then
            (some true)
            else
            (Option.bind (nflog_rising_c a0.f4) fun (y30 : Bool) =>
              some (!y30))) fun (j22 : Bool) =>
          bif j22 then
          (some 41)
          else
          (some 0)))))
theorem nflog_Right_ev (a0 : S23) : OLe (nflog_Right_c a0) (nflog_Right a0) := by
  unfold nflog_Right_c nflog_Right
  exact (OLe.bind (nflog_text_ev _ _) (fun _ => (OLe.cond (OLe.refl _) (OLe.bind (nflog_text_ev _ _) (fun _ => (OLe.cond (OLe.refl _) (OLe.cond (OLe.refl _) (OLe.cond (OLe.refl _) (OLe.bind (OLe.bind (nflog_rising_ev _) (fun _ => (OLe.cond (OLe.refl _) (OLe.bind (nflog_rising_ev _) (fun _ => (OLe.refl _)))))) (fun _ => (OLe.cond (OLe.refl _) (OLe.refl _))))))))))))
noncomputable def slices_IndexFunc_l17_c (a0 : List S76) (a1 : S76 → Option Bool) : Int → Option ((Int) ⊕ ((Unit) ⊕ (Int))) := fun s7 =>
  bif (decide (s7 < (a0.length : Int))) then
  (Option.bind (ix a0 s7) fun (x20 : S76) =>
    Option.bind (a1 x20) fun (y35 : Bool) =>
    bif y35 then
    (some (Sum.inr (Sum.inr s7)))
    else
    (some (Sum.inl (IntKind.wrap .i64 (s7 + 1)))))
  else
  (some (Sum.inr (Sum.inl ())))
theorem slices_IndexFunc_l17_ev (a0 : List S76) {a1 a1' : S76 → Option Bool} (ha1 : ∀ x0, OLe (a1 x0) (a1' x0)) (s7 : Int) : OLe (slices_IndexFunc_l17_c a0 a1 s7) (slices_IndexFunc_l17 a0 a1' s7) := by
  unfold slices_IndexFunc_l17_c slices_IndexFunc_l17
  exact (OLe.cond (OLe.bind (OLe.refl _) (fun _ => (OLe.bind (ha1 _) (fun _ => (OLe.cond (OLe.refl _) (OLe.refl _)))))) (OLe.refl _))
noncomputable def slices_IndexFunc_c (a0 : List S76) (a1 : S76 → Option Bool) : Option Int :=
  Option.bind (loopF 1000000 (slices_IndexFunc_l17_c a0 a1) 0) fun (r5 : (Unit) ⊕ (Int)) =>
  match r5 with
  | Sum.inl r13 => some (-1)
  | Sum.inr v37 => some v37
theorem slices_IndexFunc_ev (a0 : List S76) {a1 a1' : S76 → Option Bool} (ha1 : ∀ x0, OLe (a1 x0) (a1' x0)) : OLe (slices_IndexFunc_c a0 a1) (slices_IndexFunc a0 a1') := by
  unfold slices_IndexFunc_c slices_IndexFunc
  exact (OLe.bind (OLe.loop (fun _ => slices_IndexFunc_l17_ev _ ha1 _)) (fun j => by cases j with | inl a => exact (OLe.refl _) | inr b => exact (OLe.refl _)))
noncomputable def nflog_list_find_c (a0 : S43) (a1 : S59) : Option (Int × Bool) :=
  Option.bind (slices_IndexFunc_c a0.f0 (fun x0 => some (nflog_list_find_1 x0 a1))) fun (y2 : Int) =>
  bif (decide (y2 < 0)) then
  (some ((a0.f0.length : Int), false))
  else
  (Option.bind (ix a0.f0 y2) fun (x5 : S76) =>
    some (y2, ((x5.f0.f0.toList == a1.f0.toList) && (x5.f0.f1.toList == a1.f1.toList))))
theorem nflog_list_find_ev (a0 : S43) (a1 : S59) : OLe (nflog_list_find_c a0 a1) (nflog_list_find a0 a1) := by
  unfold nflog_list_find_c nflog_list_find
  exact (OLe.bind (slices_IndexFunc_ev _ (fun _ => OLe.refl _)) (fun _ => (OLe.cond (OLe.refl _) (OLe.bind (OLe.refl _) (fun _ => (OLe.refl _))))))
noncomputable def slices_Clone_c (a0 : List S53) : Option (List S53) :=
  Option.bind (app ([] : List S53) a0) fun (zs3 : List S53) =>
  some zs3
theorem slices_Clone_ev (a0 : List S53) : OLe (slices_Clone_c a0) (slices_Clone a0) := by
  unfold slices_Clone_c slices_Clone
  exact (OLe.bind (OLe.refl _) (fun _ => (OLe.refl _)))
noncomputable def nflog_sets_l28_c (a0 : List (List S53)) : ((List (List S53)) × Int) → Option (((List (List S53)) × Int) ⊕ ((List (List S53)))) := fun s11 =>
  bif (decide (s11.2 < (a0.length : Int))) then
  (Option.bind (ix a0 s11.2) fun (x31 : List S53) =>
    Option.bind (slices_Clone_c x31) fun (y42 : (List S53)) =>
    Option.bind (app s11.1 [y42]) fun (zs59 : List (List S53)) =>
    some (Sum.inl (zs59, (IntKind.wrap .i64 (s11.2 + 1)))))
  else
  (some (Sum.inr s11.1))
theorem nflog_sets_l28_ev (a0 : List (List S53)) (s11 : (List (List S53)) × Int) : OLe (nflog_sets_l28_c a0 s11) (nflog_sets_l28 a0 s11) := by
  unfold nflog_sets_l28_c nflog_sets_l28
  exact (OLe.cond (OLe.bind (OLe.refl _) (fun _ => (OLe.bind (slices_Clone_ev _) (fun _ => (OLe.bind (OLe.refl _) (fun _ => (OLe.refl _))))))) (OLe.refl _))
noncomputable def nflog_sets_c (a0 : List (List S53)) : Option (List (List S53)) :=
  Option.bind (loopF 1000000 (nflog_sets_l28_c a0) ([], 0)) fun (r9 : (List (List S53))) =>
  some r9
theorem nflog_sets_ev (a0 : List (List S53)) : OLe (nflog_sets_c a0) (nflog_sets a0) := by
  unfold nflog_sets_c nflog_sets
  exact (OLe.bind (OLe.loop (fun _ => nflog_sets_l28_ev _ _)) (fun _ => (OLe.refl _)))
noncomputable def nflog_own_c (a0 : S23) : Option S23 :=
  Option.bind (nflog_sets_c a0.f3) fun (y3 : (List (List S53))) =>
  Option.bind (nflog_sets_c a0.f4) fun (y12 : (List (List S53))) =>
  some (⟨a0.f0, a0.f1, a0.f2, y3, y12⟩ : S23)
theorem nflog_own_ev (a0 : S23) : OLe (nflog_own_c a0) (nflog_own a0) := by
  unfold nflog_own_c nflog_own
  exact (OLe.bind (nflog_sets_ev _) (fun _ => (OLe.bind (nflog_sets_ev _) (fun _ => (OLe.refl _)))))
noncomputable def nflog_Log_Find_c (a0 : S45) (a1 : ByteArray) (a2 : ByteArray) : Option (S23 × Bool) :=
  Option.bind (nflog_list_find_c a0.f0 (⟨a1, a2⟩ : S59)) fun (y2 : Int × Bool) =>
  bif (!y2.2) then
  (some ((⟨(⟨#[]⟩ : ByteArray), (⟨#[]⟩ : ByteArray), 0, [], []⟩ : S23), false))
  else
  (Option.bind (ix a0.f0.f0 y2.1) fun (x12 : S76) =>
    Option.bind (nflog_own_c x12.f1) fun (y27 : S23) =>
    some (y27, true))
theorem nflog_Log_Find_ev (a0 : S45) (a1 : ByteArray) (a2 : ByteArray) : OLe (nflog_Log_Find_c a0 a1 a2) (nflog_Log_Find a0 a1 a2) := by
  unfold nflog_Log_Find_c nflog_Log_Find
  exact (OLe.bind (nflog_list_find_ev _ _) (fun _ => (OLe.cond (OLe.refl _) (OLe.bind (OLe.refl _) (fun _ => (OLe.bind (nflog_own_ev _) (fun _ => (OLe.refl _))))))))
noncomputable def nflog_list_put_c (a0 : S43) (a1 : S59) (a2 : S23) : Option S43 :=
  Option.bind (nflog_list_find_c a0 a1) fun (y3 : Int × Bool) =>
  bif y3.2 then
  (Option.bind (ix a0.f0 y3.1) fun (x9 : S76) =>
    some (⟨(lset a0.f0 y3.1 (⟨x9.f0, a2⟩ : S76))⟩ : S43))
  else
  (Option.bind (linsert a0.f0 y3.1 (⟨(⟨a1.f0, a1.f1⟩ : S59), (⟨a2.f0, a2.f1, a2.f2, a2.f3, a2.f4⟩ : S23)⟩ : S76)) fun (zs31 : List S76) =>
    some (⟨zs31⟩ : S43))
theorem nflog_list_put_ev (a0 : S43) (a1 : S59) (a2 : S23) : OLe (nflog_list_put_c a0 a1 a2) (nflog_list_put a0 a1 a2) := by
  unfold nflog_list_put_c nflog_list_put
  exact (OLe.bind (nflog_list_find_ev _ _) (fun _ => (OLe.cond (OLe.bind (OLe.refl _) (fun _ => (OLe.refl _))) (OLe.bind (OLe.refl _) (fun _ => (OLe.refl _))))))
noncomputable def nflog_Log_Put_c (a0 : S45) (a1 : S23) : Option (Int × S45) :=
  Option.bind (nflog_Right_c a1) fun (y2 : Int) =>
  bif (y2 != 0) then
  (some (y2, a0))
  else
  (Option.bind (nflog_Log_Find_c a0 a1.f0 a1.f1) fun (y5 : S23 × Bool) =>
    bif (y5.2 && (decide (y5.1.f2 > a1.f2))) then
    (some (90, a0))
    else
    (Option.bind (bif (!y5.2) then
        (some (decide ((nflog_Log_Len a0) ≥ 500)))
        else
        (some false)) fun (j24 : Bool) =>
      bif j24 then
      (some (8, a0))
      else
      (Option.bind (nflog_own_c a1) fun (y34 : S23) =>
        Option.bind (nflog_list_put_c a0.f0 (⟨a1.f0, a1.f1⟩ : S59) y34) fun (y45 : S43) =>
        some (0, (⟨(⟨y45.f0⟩ : S43)⟩ : S45)))))
theorem nflog_Log_Put_ev (a0 : S45) (a1 : S23) : OLe (nflog_Log_Put_c a0 a1) (nflog_Log_Put a0 a1) := by
  unfold nflog_Log_Put_c nflog_Log_Put
  exact (OLe.bind (nflog_Right_ev _) (fun _ => (OLe.cond (OLe.refl _) (OLe.bind (nflog_Log_Find_ev _ _ _) (fun _ => (OLe.cond (OLe.refl _) (OLe.bind (OLe.cond (OLe.refl _) (OLe.refl _)) (fun _ => (OLe.cond (OLe.refl _) (OLe.bind (nflog_own_ev _) (fun _ => (OLe.bind (nflog_list_put_ev _ _ _) (fun _ => (OLe.refl _))))))))))))))
noncomputable def slices_IndexFunc_f80_l17_c (a0 : List (List S53)) (a1 : (List S53) → Option Bool) : Int → Option ((Int) ⊕ ((Unit) ⊕ (Int))) := fun s7 =>
  bif (decide (s7 < (a0.length : Int))) then
  (Option.bind (ix a0 s7) fun (x20 : List S53) =>
    Option.bind (a1 x20) fun (y32 : Bool) =>
    bif y32 then
    (some (Sum.inr (Sum.inr s7)))
    else
    (some (Sum.inl (IntKind.wrap .i64 (s7 + 1)))))
  else
  (some (Sum.inr (Sum.inl ())))
theorem slices_IndexFunc_f80_l17_ev (a0 : List (List S53)) {a1 a1' : (List S53) → Option Bool} (ha1 : ∀ x0, OLe (a1 x0) (a1' x0)) (s7 : Int) : OLe (slices_IndexFunc_f80_l17_c a0 a1 s7) (slices_IndexFunc_f80_l17 a0 a1' s7) := by
  unfold slices_IndexFunc_f80_l17_c slices_IndexFunc_f80_l17
  exact (OLe.cond (OLe.bind (OLe.refl _) (fun _ => (OLe.bind (ha1 _) (fun _ => (OLe.cond (OLe.refl _) (OLe.refl _)))))) (OLe.refl _))
noncomputable def slices_IndexFunc_f80_c (a0 : List (List S53)) (a1 : (List S53) → Option Bool) : Option Int :=
  Option.bind (loopF 1000000 (slices_IndexFunc_f80_l17_c a0 a1) 0) fun (r5 : (Unit) ⊕ (Int)) =>
  match r5 with
  | Sum.inl r13 => some (-1)
  | Sum.inr v34 => some v34
theorem slices_IndexFunc_f80_ev (a0 : List (List S53)) {a1 a1' : (List S53) → Option Bool} (ha1 : ∀ x0, OLe (a1 x0) (a1' x0)) : OLe (slices_IndexFunc_f80_c a0 a1) (slices_IndexFunc_f80 a0 a1') := by
  unfold slices_IndexFunc_f80_c slices_IndexFunc_f80
  exact (OLe.bind (OLe.loop (fun _ => slices_IndexFunc_f80_l17_ev _ ha1 _)) (fun j => by cases j with | inl a => exact (OLe.refl _) | inr b => exact (OLe.refl _)))
noncomputable def slices_ContainsFunc_c (a0 : List (List S53)) (a1 : (List S53) → Option Bool) : Option Bool :=
  Option.bind (slices_IndexFunc_f80_c a0 a1) fun (y1 : Int) =>
  some (decide (y1 ≥ 0))
theorem slices_ContainsFunc_ev (a0 : List (List S53)) {a1 a1' : (List S53) → Option Bool} (ha1 : ∀ x0, OLe (a1 x0) (a1' x0)) : OLe (slices_ContainsFunc_c a0 a1) (slices_ContainsFunc a0 a1') := by
  unfold slices_ContainsFunc_c slices_ContainsFunc
  exact (OLe.bind (slices_IndexFunc_f80_ev _ ha1) (fun _ => (OLe.refl _)))
noncomputable def nflog_right_1_c (a0 : List S53) : Option Bool :=
  Option.bind (labels_Right_c a0) fun (y1 : Int × Int) =>
  some (y1.1 != 0)
theorem nflog_right_1_ev (a0 : List S53) : OLe (nflog_right_1_c a0) (nflog_right_1 a0) := by
  unfold nflog_right_1_c nflog_right_1
  exact (OLe.bind (labels_Right_ev _) (fun _ => (OLe.refl _)))
noncomputable def nflog_right_c (a0 : List (List S53)) : Option Bool :=
  Option.bind (slices_ContainsFunc_c a0 nflog_right_1_c) fun (y1 : Bool) =>
  some (!y1)
theorem nflog_right_ev (a0 : List (List S53)) : OLe (nflog_right_c a0) (nflog_right a0) := by
  unfold nflog_right_c nflog_right
  exact (OLe.bind (slices_ContainsFunc_ev _ (fun _ => nflog_right_1_ev _)) (fun _ => (OLe.refl _)))
noncomputable def nflog_Within_1_c (a0 : List S53) (a1 : List S53) : Option Bool :=
  Option.bind (labels_Compare_c a1 a0) fun (y1 : Int) =>
  some (y1 == 0)
theorem nflog_Within_1_ev (a0 : List S53) (a1 : List S53) : OLe (nflog_Within_1_c a0 a1) (nflog_Within_1 a0 a1) := by
  unfold nflog_Within_1_c nflog_Within_1
  exact (OLe.bind (labels_Compare_ev _ _) (fun _ => (OLe.refl _)))
noncomputable def nflog_Within_l17_c (a0 : List (List S53)) (a1 : List (List S53)) : Int → Option ((Int) ⊕ ((Unit) ⊕ (Bool))) := fun s7 =>
  bif (decide (s7 < (a0.length : Int))) then
  (Option.bind (ix a0 s7) fun (x20 : List S53) =>
    Option.bind (slices_ContainsFunc_c a1 (fun x0 => nflog_Within_1_c x0 x20)) fun (y32 : Bool) =>
    bif (!y32) then
    (some (Sum.inr (Sum.inr false)))
    else
    (some (Sum.inl (IntKind.wrap .i64 (s7 + 1)))))
  else
  (some (Sum.inr (Sum.inl ())))
theorem nflog_Within_l17_ev (a0 : List (List S53)) (a1 : List (List S53)) (s7 : Int) : OLe (nflog_Within_l17_c a0 a1 s7) (nflog_Within_l17 a0 a1 s7) := by
  unfold nflog_Within_l17_c nflog_Within_l17
  exact (OLe.cond (OLe.bind (OLe.refl _) (fun _ => (OLe.bind (slices_ContainsFunc_ev _ (fun _ => nflog_Within_1_ev _ _)) (fun _ => (OLe.cond (OLe.refl _) (OLe.refl _)))))) (OLe.refl _))
noncomputable def nflog_Within_c (a0 : List (List S53)) (a1 : List (List S53)) : Option Bool :=
  Option.bind (loopF 1000000 (nflog_Within_l17_c a0 a1) 0) fun (r5 : (Unit) ⊕ (Bool)) =>
  match r5 with
  | Sum.inl r13 => some true
  | Sum.inr v35 => some v35
theorem nflog_Within_ev (a0 : List (List S53)) (a1 : List (List S53)) : OLe (nflog_Within_c a0 a1) (nflog_Within a0 a1) := by
  unfold nflog_Within_c nflog_Within
  exact (OLe.bind (OLe.loop (fun _ => nflog_Within_l17_ev _ _ _)) (fun j => by cases j with | inl a => exact (OLe.refl _) | inr b => exact (OLe.refl _)))
noncomputable def nflog_Needs_c (a0 : S23) (a1 : Bool) (a2 : Int) (a3 : Int) (a4 : List (List S53)) (a5 : List (List S53)) : Option (Bool × Int) :=
  bif ((((decide (a2 < 0)) || (decide (a2 > 1125899906842624))) || (decide (a3 < 1))) || (decide (a3 > 1099511627776))) then
  (some (false, 1))
  else
  (Option.bind (Option.bind (nflog_right_c a4) fun (y16 : Bool) =>
      bif (!y16) then
      (some true)
      else
      (Option.bind (nflog_right_c a5) fun (y19 : Bool) =>
        some (!y19))) fun (j11 : Bool) =>
    bif j11 then
    (some (false, 41))
    else
    (bif (!a1) then
      (some ((decide ((a4.length : Int) > 0)), 0))
      else
      (Option.bind (nflog_Right_c a0) fun (y23 : Int) =>
        bif (y23 != 0) then
        (some (false, y23))
        else
        (Option.bind (nflog_Within_c a4 a0.f3) fun (y26 : Bool) =>
          bif (!y26) then
          (some (true, 0))
          else
          (bif ((a4.length : Int) == 0) then
            (some ((decide ((a0.f3.length : Int) > 0)), 0))
            else
            (Option.bind (nflog_Within_c a5 a0.f4) fun (y30 : Bool) =>
              bif (!y30) then
              (some (true, 0))
              else
              (some ((decide (a0.f2 ≤ (IntKind.wrap .i64 (a2 - a3)))), 0))))))))
theorem nflog_Needs_ev (a0 : S23) (a1 : Bool) (a2 : Int) (a3 : Int) (a4 : List (List S53)) (a5 : List (List S53)) : OLe (nflog_Needs_c a0 a1 a2 a3 a4 a5) (nflog_Needs a0 a1 a2 a3 a4 a5) := by
  unfold nflog_Needs_c nflog_Needs
  exact (OLe.cond (OLe.refl _) (OLe.bind (OLe.bind (nflog_right_ev _) (fun _ => (OLe.cond (OLe.refl _) (OLe.bind (nflog_right_ev _) (fun _ => (OLe.refl _)))))) (fun _ => (OLe.cond (OLe.refl _) (OLe.cond (OLe.refl _) (OLe.bind (nflog_Right_ev _) (fun _ => (OLe.cond (OLe.refl _) (OLe.bind (nflog_Within_ev _ _) (fun _ => (OLe.cond (OLe.refl _) (OLe.cond (OLe.refl _) (OLe.bind (nflog_Within_ev _ _) (fun _ => (OLe.cond (OLe.refl _) (OLe.refl _))))))))))))))))
noncomputable def nflog_Log_Needs_c (a0 : S45) (a1 : ByteArray) (a2 : ByteArray) (a3 : Int) (a4 : Int) (a5 : List (List S53)) (a6 : List (List S53)) : Option (Bool × Int) :=
  Option.bind (nflog_Log_Find_c a0 a1 a2) fun (y1 : S23 × Bool) =>
  Option.bind (nflog_Needs_c y1.1 y1.2 a3 a4 a5 a6) fun (y13 : Bool × Int) =>
  some (y13.1, y13.2)
theorem nflog_Log_Needs_ev (a0 : S45) (a1 : ByteArray) (a2 : ByteArray) (a3 : Int) (a4 : Int) (a5 : List (List S53)) (a6 : List (List S53)) : OLe (nflog_Log_Needs_c a0 a1 a2 a3 a4 a5 a6) (nflog_Log_Needs a0 a1 a2 a3 a4 a5 a6) := by
  unfold nflog_Log_Needs_c nflog_Log_Needs
  exact (OLe.bind (nflog_Log_Find_ev _ _ _) (fun _ => (OLe.bind (nflog_Needs_ev _ _ _ _ _ _) (fun _ => (OLe.refl _)))))
noncomputable def tocsinlaw26_awake_c : Option Bool :=
  Option.bind (nflog_Log_Needs_c (⟨(⟨nflog_New.f0.f0⟩ : S43)⟩ : S45) (⟨#[116, 101, 97, 109]⟩ : ByteArray) (⟨#[107]⟩ : ByteArray) 100 50 [[(⟨(⟨#[97]⟩ : ByteArray), (⟨#[49]⟩ : ByteArray)⟩ : S53)]] []) fun (y25 : Bool × Int) =>
  Option.bind (nflog_Log_Put_c (⟨(⟨nflog_New.f0.f0⟩ : S43)⟩ : S45) (⟨(⟨#[116, 101, 97, 109]⟩ : ByteArray), (⟨#[107]⟩ : ByteArray), 100, [[(⟨(⟨#[97]⟩ : ByteArray), (⟨#[49]⟩ : ByteArray)⟩ : S53)]], []⟩ : S23)) fun (y30 : Int × S45) =>
  Option.bind (nflog_Log_Needs_c y30.2 (⟨#[116, 101, 97, 109]⟩ : ByteArray) (⟨#[107]⟩ : ByteArray) 120 50 [[(⟨(⟨#[97]⟩ : ByteArray), (⟨#[49]⟩ : ByteArray)⟩ : S53)]] []) fun (y39 : Bool × Int) =>
  Option.bind (nflog_Log_Needs_c y30.2 (⟨#[116, 101, 97, 109]⟩ : ByteArray) (⟨#[107]⟩ : ByteArray) 150 50 [[(⟨(⟨#[97]⟩ : ByteArray), (⟨#[49]⟩ : ByteArray)⟩ : S53)]] []) fun (y44 : Bool × Int) =>
  some ((((((y25.1 && (y25.2 == 0)) && (y30.1 == 0)) && (!y39.1)) && (y39.2 == 0)) && y44.1) && (y44.2 == 0))
theorem tocsinlaw26_awake_ev  : OLe (tocsinlaw26_awake_c ) (tocsinlaw26_awake ) := by
  unfold tocsinlaw26_awake_c tocsinlaw26_awake
  exact (OLe.bind (nflog_Log_Needs_ev _ _ _ _ _ _ _) (fun _ => (OLe.bind (nflog_Log_Put_ev _ _) (fun _ => (OLe.bind (nflog_Log_Needs_ev _ _ _ _ _ _ _) (fun _ => (OLe.bind (nflog_Log_Needs_ev _ _ _ _ _ _ _) (fun _ => (OLe.refl _)))))))))
end Go.Proofs.YtjkkmbjkndageaaDoor
