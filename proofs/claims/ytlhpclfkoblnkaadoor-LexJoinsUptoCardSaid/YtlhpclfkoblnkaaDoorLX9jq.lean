/- Plain laws: the document's tokens are the lists'. -/
import Derived.Test.YtlhpclfkoblnkaaDoorLX3jq
import Derived.KernelRfl
import Derived.Lib.LaidU8T
import Derived.Shelf.Unicode.ValidAny
import Derived.Shelf.Unicode.DecodeAny
import Derived.Lib.ValidLaws
set_option linter.unusedVariables false
set_option linter.unusedSimpArgs false
set_option maxRecDepth 100000
namespace Go.Proofs.YtlhpclfkoblnkaaDoor
open Go.GB
noncomputable def lex_run_l16_c (a0 : ByteArray) (a1 : Int) (a2 : Int → Option Bool) : Int → Option ((Int) ⊕ (Int)) := fun s7 =>
  Option.bind (bif (decide ((IntKind.wrap .i64 (a1 + s7)) < (a0.size : Int))) then
    (Option.bind (bx a0 (IntKind.wrap .i64 (a1 + s7))) fun (c24 : Int) =>
      Option.bind (a2 c24) fun (y27 : Bool) =>
      some y27)
    else
    (some false)) fun (j18 : Bool) =>
  bif j18 then
  (some (Sum.inl (IntKind.wrap .i64 (s7 + 1))))
  else
  (some (Sum.inr s7))
theorem lex_run_l16_ev (a0 : ByteArray) (a1 : Int) {a2 a2' : Int → Option Bool} (ha2 : ∀ x0, OLe (a2 x0) (a2' x0)) (s7 : Int) : OLe (lex_run_l16_c a0 a1 a2 s7) (lex_run_l16 a0 a1 a2' s7) := by
  unfold lex_run_l16_c lex_run_l16
  exact (OLe.bind (OLe.cond (OLe.bind (OLe.refl _) (fun _ => (OLe.bind (ha2 _) (fun _ => (OLe.refl _))))) (OLe.refl _)) (fun _ => (OLe.cond (OLe.refl _) (OLe.refl _))))
noncomputable def lex_run_c (a0 : ByteArray) (a1 : Int) (a2 : Int → Option Bool) : Option Int :=
  Option.bind (loopF 1000000 (lex_run_l16_c a0 a1 a2) 0) fun (r5 : Int) =>
  some r5
theorem lex_run_ev (a0 : ByteArray) (a1 : Int) {a2 a2' : Int → Option Bool} (ha2 : ∀ x0, OLe (a2 x0) (a2' x0)) : OLe (lex_run_c a0 a1 a2) (lex_run a0 a1 a2') := by
  unfold lex_run_c lex_run
  exact (OLe.bind (OLe.loop (fun _ => lex_run_l16_ev _ _ ha2 _)) (fun _ => (OLe.refl _)))
noncomputable def stringslite_HasPrefix_c (a0 : ByteArray) (a1 : ByteArray) : Option Bool :=
  Option.bind (bif (decide ((a0.size : Int) ≥ (a1.size : Int))) then
    (Option.bind (sx a0 0 (a1.size : Int)) fun (s8 : ByteArray) =>
      some (s8.toList == a1.toList))
    else
    (some false)) fun (j1 : Bool) =>
  some j1
theorem stringslite_HasPrefix_ev (a0 : ByteArray) (a1 : ByteArray) : OLe (stringslite_HasPrefix_c a0 a1) (stringslite_HasPrefix a0 a1) := by
  unfold stringslite_HasPrefix_c stringslite_HasPrefix
  exact (OLe.bind (OLe.cond (OLe.bind (OLe.refl _) (fun _ => (OLe.refl _))) (OLe.refl _)) (fun _ => (OLe.refl _)))
noncomputable def strings_HasPrefix_c (a0 : ByteArray) (a1 : ByteArray) : Option Bool :=
  Option.bind (stringslite_HasPrefix_c a0 a1) fun (y1 : Bool) =>
  some y1
theorem strings_HasPrefix_ev (a0 : ByteArray) (a1 : ByteArray) : OLe (strings_HasPrefix_c a0 a1) (strings_HasPrefix a0 a1) := by
  unfold strings_HasPrefix_c strings_HasPrefix
  exact (OLe.bind (stringslite_HasPrefix_ev _ _) (fun _ => (OLe.refl _)))
noncomputable def lex_number_c (a0 : ByteArray) : Option Int :=
  Option.bind (Option.bind (strings_HasPrefix_c a0 (⟨#[48, 120]⟩ : ByteArray)) fun (y6 : Bool) =>
    bif y6 then
    (some true)
    else
    (Option.bind (strings_HasPrefix_c a0 (⟨#[48, 88]⟩ : ByteArray)) fun (y9 : Bool) =>
      some y9)) fun (j1 : Bool) =>
  Option.bind ((bif j1 then
    (Option.bind (lex_run_c a0 2 (fun x0 => some (lex_hex x0))) fun (y18 : Int) =>
      bif (decide (y18 > 0)) then
      (some (Sum.inr (IntKind.wrap .i64 (2 + y18))))
      else
      (some (Sum.inl ())))
    else
    (some (Sum.inl ())) : Option ((Unit) ⊕ (Int)))) fun (j11 : (Unit) ⊕ (Int)) =>
  match j11 with
  | Sum.inl j13 => Option.bind (lex_run_c a0 0 (fun x0 => some (lex_digit x0))) fun (y21 : Int) =>
    Option.bind (bif (decide (y21 < (a0.size : Int))) then
      (Option.bind (bx a0 y21) fun (c29 : Int) =>
        some (c29 == 46))
      else
      (some false)) fun (j23 : Bool) =>
    Option.bind ((bif j23 then
      (Option.bind (lex_run_c a0 (IntKind.wrap .i64 (y21 + 1)) (fun x0 => some (lex_digit x0))) fun (y38 : Int) =>
        bif ((IntKind.wrap .i64 (y21 + y38)) == 0) then
        (some (Sum.inr 0))
        else
        (some (Sum.inl (IntKind.wrap .i64 (y21 + (IntKind.wrap .i64 (1 + y38)))))))
      else
      (some (Sum.inl y21)) : Option ((Int) ⊕ (Int)))) fun (j31 : (Int) ⊕ (Int)) =>
    match j31 with
    | Sum.inl j33 => bif (j33 == 0) then
      (some 0)
      else
      (Option.bind (bif (decide (j33 < (a0.size : Int))) then
          (Option.bind (bx a0 j33) fun (c48 : Int) =>
            bif (c48 == 101) then
            (some true)
            else
            (Option.bind (bx a0 j33) fun (c51 : Int) =>
              some (c51 == 69)))
          else
          (some false)) fun (j42 : Bool) =>
        Option.bind (bif j42 then
          (Option.bind (bif (decide ((IntKind.wrap .i64 (j33 + 1)) < (a0.size : Int))) then
              (Option.bind (bx a0 (IntKind.wrap .i64 (j33 + 1))) fun (c65 : Int) =>
                bif (c65 == 43) then
                (some true)
                else
                (Option.bind (bx a0 (IntKind.wrap .i64 (j33 + 1))) fun (c68 : Int) =>
                  some (c68 == 45)))
              else
              (some false)) fun (j59 : Bool) =>
            Option.bind (bif j59 then
              (some (IntKind.wrap .i64 ((IntKind.wrap .i64 (j33 + 1)) + 1)))
              else
              (some (IntKind.wrap .i64 (j33 + 1)))) fun (j70 : Int) =>
            Option.bind (lex_run_c a0 j70 (fun x0 => some (lex_digit x0))) fun (y76 : Int) =>
            Option.bind (bif (decide (y76 > 0)) then
              (some (IntKind.wrap .i64 (j70 + y76)))
              else
              (some j33)) fun (j78 : Int) =>
            some j78)
          else
          (some j33)) fun (j53 : Int) =>
        some j53)
    | Sum.inr v84 => some v84
  | Sum.inr v85 => some v85
theorem lex_number_ev (a0 : ByteArray) : OLe (lex_number_c a0) (lex_number a0) := by
  unfold lex_number_c lex_number
  exact (OLe.bind (OLe.bind (strings_HasPrefix_ev _ _) (fun _ => (OLe.cond (OLe.refl _) (OLe.bind (strings_HasPrefix_ev _ _) (fun _ => (OLe.refl _)))))) (fun _ => (OLe.bind (OLe.cond (OLe.bind (lex_run_ev _ _ (fun _ => OLe.refl _)) (fun _ => (OLe.cond (OLe.refl _) (OLe.refl _)))) (OLe.refl _)) (fun j => by cases j with | inl a => exact (OLe.bind (lex_run_ev _ _ (fun _ => OLe.refl _)) (fun _ => (OLe.bind (OLe.cond (OLe.bind (OLe.refl _) (fun _ => (OLe.refl _))) (OLe.refl _)) (fun _ => (OLe.bind (OLe.cond (OLe.bind (lex_run_ev _ _ (fun _ => OLe.refl _)) (fun _ => (OLe.cond (OLe.refl _) (OLe.refl _)))) (OLe.refl _)) (fun j => by cases j with | inl a => exact (OLe.cond (OLe.refl _) (OLe.bind (OLe.cond (OLe.bind (OLe.refl _) (fun _ => (OLe.cond (OLe.refl _) (OLe.bind (OLe.refl _) (fun _ => (OLe.refl _)))))) (OLe.refl _)) (fun _ => (OLe.bind (OLe.cond (OLe.bind (OLe.cond (OLe.bind (OLe.refl _) (fun _ => (OLe.cond (OLe.refl _) (OLe.bind (OLe.refl _) (fun _ => (OLe.refl _)))))) (OLe.refl _)) (fun _ => (OLe.bind (OLe.cond (OLe.refl _) (OLe.refl _)) (fun _ => (OLe.bind (lex_run_ev _ _ (fun _ => OLe.refl _)) (fun _ => (OLe.bind (OLe.cond (OLe.refl _) (OLe.refl _)) (fun _ => (OLe.refl _))))))))) (OLe.refl _)) (fun _ => (OLe.refl _)))))) | inr b => exact (OLe.refl _))))))) | inr b => exact (OLe.refl _)))))
noncomputable def lex_times_l16_c (a0 : ByteArray) : (Int × Int) → Option ((Int × Int) ⊕ (Int)) := fun s7 =>
  bif (decide (s7.2 < (a0.size : Int))) then
  (Option.bind (bx a0 s7.2) fun (c19 : Int) =>
    some (Sum.inl ((if 1099511627777 < (IntKind.wrap .i64 ((IntKind.wrap .i64 (s7.1 * 10)) + (IntKind.wrap .i64 (IntKind.wrap .u8 (c19 - 48))))) then 1099511627777 else (IntKind.wrap .i64 ((IntKind.wrap .i64 (s7.1 * 10)) + (IntKind.wrap .i64 (IntKind.wrap .u8 (c19 - 48)))))), (IntKind.wrap .i64 (s7.2 + 1)))))
  else
  (some (Sum.inr s7.1))
theorem lex_times_l16_ev (a0 : ByteArray) (s7 : Int × Int) : OLe (lex_times_l16_c a0 s7) (lex_times_l16 a0 s7) := by
  unfold lex_times_l16_c lex_times_l16
  exact (OLe.cond (OLe.bind (OLe.refl _) (fun _ => (OLe.refl _))) (OLe.refl _))
noncomputable def lex_times_c (a0 : ByteArray) (a1 : Int) : Option Int :=
  Option.bind (loopF 1000000 (lex_times_l16_c a0) (0, 0)) fun (r5 : Int) =>
  Option.bind (quox .i64 1099511627776 a1) fun (q21 : Int) =>
  bif (decide (r5 > (IntKind.wrap .i64 (q21 + 1)))) then
  (some 1099511627777)
  else
  (some (if 1099511627777 < (IntKind.wrap .i64 (r5 * a1)) then 1099511627777 else (IntKind.wrap .i64 (r5 * a1))))
theorem lex_times_ev (a0 : ByteArray) (a1 : Int) : OLe (lex_times_c a0 a1) (lex_times a0 a1) := by
  unfold lex_times_c lex_times
  exact (OLe.bind (OLe.loop (fun _ => lex_times_l16_ev _ _)) (fun _ => (OLe.bind (OLe.refl _) (fun _ => (OLe.cond (OLe.refl _) (OLe.refl _))))))
noncomputable def lex_span_l46_c (a0 : ByteArray) (s7 : Int × Int × Int) (y18 : Int) (y21 : Int) : Int → Option ((Int) ⊕ ((Unit) ⊕ ((Int × Int × Int) ⊕ (Int × Int)))) := fun s36 =>
  bif (decide (s36 < (lex_units.length : Int))) then
  (Option.bind (ix lex_units s36) fun (x49 : S62) =>
    Option.bind (bif (decide (s36 ≥ s7.2.1)) then
      (Option.bind (sx a0 (IntKind.wrap .i64 (s7.1 + y18)) (IntKind.wrap .i64 (s7.1 + (IntKind.wrap .i64 (y18 + y21))))) fun (s66 : ByteArray) =>
        some (s66.toList == x49.f0.toList))
      else
      (some false)) fun (j59 : Bool) =>
    bif j59 then
    (Option.bind (sx a0 s7.1 (IntKind.wrap .i64 (s7.1 + y18))) fun (s69 : ByteArray) =>
      Option.bind (lex_times_c s69 x49.f1) fun (y70 : Int) =>
      some (Sum.inr (Sum.inr (Sum.inl ((IntKind.wrap .i64 (s7.1 + (IntKind.wrap .i64 (y18 + y21)))), (IntKind.wrap .i64 (s36 + 1)), (if 1099511627777 < (IntKind.wrap .i64 (s7.2.2 + y70)) then 1099511627777 else (IntKind.wrap .i64 (s7.2.2 + y70))))))))
    else
    (some (Sum.inl (IntKind.wrap .i64 (s36 + 1)))))
  else
  (some (Sum.inr (Sum.inl ())))
theorem lex_span_l46_ev (a0 : ByteArray) (s7 : Int × Int × Int) (y18 : Int) (y21 : Int) (s36 : Int) : OLe (lex_span_l46_c a0 s7 y18 y21 s36) (lex_span_l46 a0 s7 y18 y21 s36) := by
  unfold lex_span_l46_c lex_span_l46
  exact (OLe.cond (OLe.bind (OLe.refl _) (fun _ => (OLe.bind (OLe.cond (OLe.bind (OLe.refl _) (fun _ => (OLe.refl _))) (OLe.refl _)) (fun _ => (OLe.cond (OLe.bind (OLe.refl _) (fun _ => (OLe.bind (lex_times_ev _ _) (fun _ => (OLe.refl _))))) (OLe.refl _)))))) (OLe.refl _))
noncomputable def lex_span_l16_c (a0 : ByteArray) : (Int × Int × Int) → Option ((Int × Int × Int) ⊕ (Int × Int)) := fun s7 =>
  Option.bind (lex_run_c a0 s7.1 (fun x0 => some (lex_digit x0))) fun (y18 : Int) =>
  bif (y18 == 0) then
  (some (Sum.inr (s7.1, s7.2.2)))
  else
  (Option.bind (lex_run_c a0 (IntKind.wrap .i64 (s7.1 + y18)) (fun x0 => some (lex_span_1 x0))) fun (y21 : Int) =>
    Option.bind (loopF 1000000 (lex_span_l46_c a0 s7 y18 y21) 0) fun (r34 : (Unit) ⊕ ((Int × Int × Int) ⊕ (Int × Int))) =>
    match r34 with
    | Sum.inl r42 => some (Sum.inr (s7.1, s7.2.2))
    | Sum.inr v72 => some v72)
theorem lex_span_l16_ev (a0 : ByteArray) (s7 : Int × Int × Int) : OLe (lex_span_l16_c a0 s7) (lex_span_l16 a0 s7) := by
  unfold lex_span_l16_c lex_span_l16
  exact (OLe.bind (lex_run_ev _ _ (fun _ => OLe.refl _)) (fun _ => (OLe.cond (OLe.refl _) (OLe.bind (lex_run_ev _ _ (fun _ => OLe.refl _)) (fun _ => (OLe.bind (OLe.loop (fun _ => lex_span_l46_ev _ _ _ _ _)) (fun j => by cases j with | inl a => exact (OLe.refl _) | inr b => exact (OLe.refl _))))))))
noncomputable def lex_span_c (a0 : ByteArray) : Option (Int × Int) :=
  Option.bind (loopF 1000000 (lex_span_l16_c a0) (0, 0, 0)) fun (r5 : Int × Int) =>
  some (r5.1, r5.2)
theorem lex_span_ev (a0 : ByteArray) : OLe (lex_span_c a0) (lex_span a0) := by
  unfold lex_span_c lex_span
  exact (OLe.bind (OLe.loop (fun _ => lex_span_l16_ev _ _)) (fun _ => (OLe.refl _)))
noncomputable def utf8_DecodeRuneInString_c (a0 : ByteArray) : Option (Int × Int) := utf8_DecodeRuneInString a0
theorem utf8_DecodeRuneInString_ev (a0 : ByteArray) : OLe (utf8_DecodeRuneInString_c a0) (utf8_DecodeRuneInString a0) := OLe.refl _
noncomputable def strconv_underscoreOK_l61_c (j12 : ByteArray) (j37 : Int × Int × Bool) : (Int × Int) → Option ((Int × Int) ⊕ ((Int) ⊕ (Bool))) := fun s51 =>
  bif (decide (s51.2 < (j12.size : Int))) then
  (Option.bind ((Option.bind (Option.bind (bx j12 s51.2) fun (c75 : Int) =>
        bif (decide (48 ≤ c75)) then
        (Option.bind (bx j12 s51.2) fun (c78 : Int) =>
          bif (decide (c78 ≤ 57)) then
          (some true)
          else
          (bif j37.2.2 then
            (Option.bind (bx j12 s51.2) fun (c82 : Int) =>
              bif (decide (97 ≤ (strconv_lower c82))) then
              (Option.bind (bx j12 s51.2) fun (c85 : Int) =>
                some (decide ((strconv_lower c85) ≤ 102)))
              else
              (some false))
            else
            (some false)))
        else
        (bif j37.2.2 then
          (Option.bind (bx j12 s51.2) fun (c88 : Int) =>
            bif (decide (97 ≤ (strconv_lower c88))) then
            (Option.bind (bx j12 s51.2) fun (c91 : Int) =>
              some (decide ((strconv_lower c91) ≤ 102)))
            else
            (some false))
          else
          (some false))) fun (j70 : Bool) =>
      bif j70 then
      (some (Sum.inl 48))
      else
      (Option.bind (bx j12 s51.2) fun (c94 : Int) =>
        bif (c94 == 95) then
        (bif (s51.1 != 48) then
          (some (Sum.inr (Sum.inr (Sum.inr false))))
          else
          (some (Sum.inl 95)))
        else
        (bif (s51.1 == 95) then
          (some (Sum.inr (Sum.inr (Sum.inr false))))
          else
          (some (Sum.inl 33)))) : Option ((Int) ⊕ ((Int × Int) ⊕ ((Int) ⊕ (Bool)))))) fun (j64 : (Int) ⊕ ((Int × Int) ⊕ ((Int) ⊕ (Bool)))) =>
    match j64 with
    | Sum.inl j66 => some (Sum.inl (j66, (IntKind.wrap .i64 (s51.2 + 1))))
    | Sum.inr v99 => some v99)
  else
  (some (Sum.inr (Sum.inl s51.1)))
theorem strconv_underscoreOK_l61_ev (j12 : ByteArray) (j37 : Int × Int × Bool) (s51 : Int × Int) : OLe (strconv_underscoreOK_l61_c j12 j37 s51) (strconv_underscoreOK_l61 j12 j37 s51) := by
  unfold strconv_underscoreOK_l61_c strconv_underscoreOK_l61
  exact (OLe.cond (OLe.bind (OLe.bind (OLe.bind (OLe.refl _) (fun _ => (OLe.cond (OLe.bind (OLe.refl _) (fun _ => (OLe.cond (OLe.refl _) (OLe.cond (OLe.bind (OLe.refl _) (fun _ => (OLe.cond (OLe.bind (OLe.refl _) (fun _ => (OLe.refl _))) (OLe.refl _)))) (OLe.refl _))))) (OLe.cond (OLe.bind (OLe.refl _) (fun _ => (OLe.cond (OLe.bind (OLe.refl _) (fun _ => (OLe.refl _))) (OLe.refl _)))) (OLe.refl _))))) (fun _ => (OLe.cond (OLe.refl _) (OLe.bind (OLe.refl _) (fun _ => (OLe.cond (OLe.cond (OLe.refl _) (OLe.refl _)) (OLe.cond (OLe.refl _) (OLe.refl _)))))))) (fun j => by cases j with | inl a => exact (OLe.refl _) | inr b => exact (OLe.refl _))) (OLe.refl _))
noncomputable def strconv_underscoreOK_c (a0 : ByteArray) : Option Bool :=
  Option.bind (bif (decide ((a0.size : Int) ≥ 1)) then
    (Option.bind (bx a0 0) fun (c7 : Int) =>
      bif (c7 == 45) then
      (some true)
      else
      (Option.bind (bx a0 0) fun (c10 : Int) =>
        some (c10 == 43)))
    else
    (some false)) fun (j1 : Bool) =>
  Option.bind (bif j1 then
    (Option.bind (sx a0 1 (a0.size : Int)) fun (s19 : ByteArray) =>
      some s19)
    else
    (some a0)) fun (j12 : ByteArray) =>
  Option.bind (bif (decide ((j12.size : Int) ≥ 2)) then
    (Option.bind (bx j12 0) fun (c26 : Int) =>
      bif (c26 == 48) then
      (Option.bind (bx j12 1) fun (c29 : Int) =>
        bif ((strconv_lower c29) == 98) then
        (some true)
        else
        (Option.bind (bx j12 1) fun (c32 : Int) =>
          bif ((strconv_lower c32) == 111) then
          (some true)
          else
          (Option.bind (bx j12 1) fun (c35 : Int) =>
            some ((strconv_lower c35) == 120))))
      else
      (some false))
    else
    (some false)) fun (j20 : Bool) =>
  Option.bind (bif j20 then
    (Option.bind (bx j12 1) fun (c43 : Int) =>
      some (48, 2, ((strconv_lower c43) == 120)))
    else
    (some (94, 0, false))) fun (j37 : Int × Int × Bool) =>
  Option.bind (loopF 1000000 (strconv_underscoreOK_l61_c j12 j37) (j37.1, j37.2.1)) fun (r49 : (Int) ⊕ (Bool)) =>
  match r49 with
  | Sum.inl r57 => some (r57 != 95)
  | Sum.inr v100 => some v100
theorem strconv_underscoreOK_ev (a0 : ByteArray) : OLe (strconv_underscoreOK_c a0) (strconv_underscoreOK a0) := by
  unfold strconv_underscoreOK_c strconv_underscoreOK
  exact (OLe.bind (OLe.cond (OLe.bind (OLe.refl _) (fun _ => (OLe.cond (OLe.refl _) (OLe.bind (OLe.refl _) (fun _ => (OLe.refl _)))))) (OLe.refl _)) (fun _ => (OLe.bind (OLe.cond (OLe.bind (OLe.refl _) (fun _ => (OLe.refl _))) (OLe.refl _)) (fun _ => (OLe.bind (OLe.cond (OLe.bind (OLe.refl _) (fun _ => (OLe.cond (OLe.bind (OLe.refl _) (fun _ => (OLe.cond (OLe.refl _) (OLe.bind (OLe.refl _) (fun _ => (OLe.cond (OLe.refl _) (OLe.bind (OLe.refl _) (fun _ => (OLe.refl _))))))))) (OLe.refl _)))) (OLe.refl _)) (fun _ => (OLe.bind (OLe.cond (OLe.bind (OLe.refl _) (fun _ => (OLe.refl _))) (OLe.refl _)) (fun _ => (OLe.bind (OLe.loop (fun _ => strconv_underscoreOK_l61_ev _ _ _)) (fun j => by cases j with | inl a => exact (OLe.refl _) | inr b => exact (OLe.refl _)))))))))))
noncomputable def strconv_ParseUint_f72_l123_c (a1 : Int) (j8 : ByteArray × Int) (j86 : Int) (q100 : Int) (l102 : List Int) : (Bool × Int × Int) → Option ((Bool × Int × Int) ⊕ (Bool × Int)) := fun s114 =>
  bif (decide (s114.2.2 < (l102.length : Int))) then
  (Option.bind (Option.bind (ix l102 s114.2.2) fun (x131 : Int) =>
      bif ((x131 == 95) && (a1 == 0)) then
      (some (true, s114.2.1))
      else
      (Option.bind (bif ((decide (48 ≤ x131)) && (decide (x131 ≤ 57))) then
          (some (IntKind.wrap .u8 (x131 - 48)))
          else
          (bif ((decide (97 ≤ (strconv_lower x131))) && (decide ((strconv_lower x131) ≤ 122))) then
            (some (IntKind.wrap .u8 ((IntKind.wrap .u8 ((strconv_lower x131) - 97)) + 10)))
            else
            (none))) fun (j151 : Int) =>
        bif (decide (j151 ≥ (IntKind.wrap .u8 j8.2))) then
        (none)
        else
        (bif (decide (s114.2.1 ≥ j86)) then
          (none)
          else
          (bif ((decide ((IntKind.wrap .u64 ((IntKind.wrap .u64 (s114.2.1 * (IntKind.wrap .u64 j8.2))) + (IntKind.wrap .u64 j151))) < (IntKind.wrap .u64 (s114.2.1 * (IntKind.wrap .u64 j8.2))))) || (decide ((IntKind.wrap .u64 ((IntKind.wrap .u64 (s114.2.1 * (IntKind.wrap .u64 j8.2))) + (IntKind.wrap .u64 j151))) > (IntKind.wrap .u64 (q100 - 1))))) then
            (none)
            else
            (some (s114.1, (IntKind.wrap .u64 ((IntKind.wrap .u64 (s114.2.1 * (IntKind.wrap .u64 j8.2))) + (IntKind.wrap .u64 j151))))))))) fun (j126 : Bool × Int) =>
    some (Sum.inl (j126.1, j126.2, (IntKind.wrap .i64 (s114.2.2 + 1)))))
  else
  (some (Sum.inr (s114.1, s114.2.1)))
theorem strconv_ParseUint_f72_l123_ev (a1 : Int) (j8 : ByteArray × Int) (j86 : Int) (q100 : Int) (l102 : List Int) (s114 : Bool × Int × Int) : OLe (strconv_ParseUint_f72_l123_c a1 j8 j86 q100 l102 s114) (strconv_ParseUint_f72_l123 a1 j8 j86 q100 l102 s114) := by
  unfold strconv_ParseUint_f72_l123_c strconv_ParseUint_f72_l123
  exact (OLe.cond (OLe.bind (OLe.bind (OLe.refl _) (fun _ => (OLe.cond (OLe.refl _) (OLe.bind (OLe.cond (OLe.refl _) (OLe.cond (OLe.refl _) (OLe.refl _))) (fun _ => (OLe.cond (OLe.refl _) (OLe.cond (OLe.refl _) (OLe.cond (OLe.refl _) (OLe.refl _))))))))) (fun _ => (OLe.refl _))) (OLe.refl _))
noncomputable def strconv_ParseUint_f72_c (a0 : ByteArray) (a1 : Int) (a2 : Int) : Option (Int × Unit) :=
  bif (a0.toList == (⟨#[]⟩ : ByteArray).toList) then
  (none)
  else
  (Option.bind (bif ((decide (2 ≤ a1)) && (decide (a1 ≤ 36))) then
      (some (a0, a1))
      else
      (bif (a1 == 0) then
        (Option.bind (bx a0 0) fun (c15 : Int) =>
          Option.bind (bif (c15 == 48) then
            (Option.bind (bif (decide ((a0.size : Int) ≥ 3)) then
                (Option.bind (bx a0 1) fun (c29 : Int) =>
                  some ((strconv_lower c29) == 98))
                else
                (some false)) fun (j23 : Bool) =>
              Option.bind (bif j23 then
                (Option.bind (sx a0 2 (a0.size : Int)) fun (s38 : ByteArray) =>
                  some (s38, 2))
                else
                (Option.bind (bif (decide ((a0.size : Int) ≥ 3)) then
                    (Option.bind (bx a0 1) fun (c45 : Int) =>
                      some ((strconv_lower c45) == 111))
                    else
                    (some false)) fun (j39 : Bool) =>
                  Option.bind (bif j39 then
                    (Option.bind (sx a0 2 (a0.size : Int)) fun (s54 : ByteArray) =>
                      some (s54, 8))
                    else
                    (Option.bind (bif (decide ((a0.size : Int) ≥ 3)) then
                        (Option.bind (bx a0 1) fun (c61 : Int) =>
                          some ((strconv_lower c61) == 120))
                        else
                        (some false)) fun (j55 : Bool) =>
                      Option.bind (bif j55 then
                        (Option.bind (sx a0 2 (a0.size : Int)) fun (s70 : ByteArray) =>
                          some (s70, 16))
                        else
                        (Option.bind (sx a0 1 (a0.size : Int)) fun (s72 : ByteArray) =>
                          some (s72, 8))) fun (j63 : ByteArray × Int) =>
                      some (j63.1, j63.2))) fun (j47 : ByteArray × Int) =>
                  some (j47.1, j47.2))) fun (j31 : ByteArray × Int) =>
              some (j31.1, j31.2))
            else
            (some (a0, 10))) fun (j17 : ByteArray × Int) =>
          some (j17.1, j17.2))
        else
        (none))) fun (j8 : ByteArray × Int) =>
    Option.bind (bif (a2 == 0) then
      (some 64)
      else
      (bif ((decide (a2 < 0)) || (decide (a2 > 64))) then
        (none)
        else
        (some a2))) fun (j73 : Int) =>
    Option.bind (bif (j8.2 == 10) then
      (some 1844674407370955162)
      else
      (Option.bind (bif (j8.2 == 16) then
          (some 1152921504606846976)
          else
          (Option.bind (quox .u64 18446744073709551615 (IntKind.wrap .u64 j8.2)) fun (q98 : Int) =>
            some (IntKind.wrap .u64 (q98 + 1)))) fun (j92 : Int) =>
        some j92)) fun (j86 : Int) =>
    Option.bind (shlx .u64 1 (IntKind.wrap .u64 j73)) fun (q100 : Int) =>
    Option.bind (sb j8.1) fun (l102 : List Int) =>
    Option.bind (loopF 1000000 (strconv_ParseUint_f72_l123_c a1 j8 j86 q100 l102) (false, 0, 0)) fun (r112 : Bool × Int) =>
    Option.bind (bif r112.1 then
      (Option.bind (strconv_underscoreOK_c a0) fun (y179 : Bool) =>
        some (!y179))
      else
      (some false)) fun (j173 : Bool) =>
    bif j173 then
    (none)
    else
    (some (r112.2, ())))
theorem strconv_ParseUint_f72_ev (a0 : ByteArray) (a1 : Int) (a2 : Int) : OLe (strconv_ParseUint_f72_c a0 a1 a2) (strconv_ParseUint_f72 a0 a1 a2) := by
  unfold strconv_ParseUint_f72_c strconv_ParseUint_f72
  exact (OLe.cond (OLe.refl _) (OLe.bind (OLe.cond (OLe.refl _) (OLe.cond (OLe.bind (OLe.refl _) (fun _ => (OLe.bind (OLe.cond (OLe.bind (OLe.cond (OLe.bind (OLe.refl _) (fun _ => (OLe.refl _))) (OLe.refl _)) (fun _ => (OLe.bind (OLe.cond (OLe.bind (OLe.refl _) (fun _ => (OLe.refl _))) (OLe.bind (OLe.cond (OLe.bind (OLe.refl _) (fun _ => (OLe.refl _))) (OLe.refl _)) (fun _ => (OLe.bind (OLe.cond (OLe.bind (OLe.refl _) (fun _ => (OLe.refl _))) (OLe.bind (OLe.cond (OLe.bind (OLe.refl _) (fun _ => (OLe.refl _))) (OLe.refl _)) (fun _ => (OLe.bind (OLe.cond (OLe.bind (OLe.refl _) (fun _ => (OLe.refl _))) (OLe.bind (OLe.refl _) (fun _ => (OLe.refl _)))) (fun _ => (OLe.refl _)))))) (fun _ => (OLe.refl _)))))) (fun _ => (OLe.refl _))))) (OLe.refl _)) (fun _ => (OLe.refl _))))) (OLe.refl _))) (fun _ => (OLe.bind (OLe.cond (OLe.refl _) (OLe.cond (OLe.refl _) (OLe.refl _))) (fun _ => (OLe.bind (OLe.cond (OLe.refl _) (OLe.bind (OLe.cond (OLe.refl _) (OLe.bind (OLe.refl _) (fun _ => (OLe.refl _)))) (fun _ => (OLe.refl _)))) (fun _ => (OLe.bind (OLe.refl _) (fun _ => (OLe.bind (OLe.refl _) (fun _ => (OLe.bind (OLe.loop (fun _ => strconv_ParseUint_f72_l123_ev _ _ _ _ _ _)) (fun _ => (OLe.bind (OLe.cond (OLe.bind (strconv_underscoreOK_ev _) (fun _ => (OLe.refl _))) (OLe.refl _)) (fun _ => (OLe.cond (OLe.refl _) (OLe.refl _)))))))))))))))))
noncomputable def strconv_ParseUint_c (a0 : ByteArray) (a1 : Int) (a2 : Int) : Option (Int × Unit) :=
  Option.bind (strconv_ParseUint_f72_c a0 a1 a2) fun (y1 : Int × Unit) =>
  some (y1.1, ())
theorem strconv_ParseUint_ev (a0 : ByteArray) (a1 : Int) (a2 : Int) : OLe (strconv_ParseUint_c a0 a1 a2) (strconv_ParseUint a0 a1 a2) := by
  unfold strconv_ParseUint_c strconv_ParseUint
  exact (OLe.bind (strconv_ParseUint_f72_ev _ _ _) (fun _ => (OLe.refl _)))
noncomputable def lex_escape_c (a0 : ByteArray) : Option (Int × Int) :=
  bif (a0.toList == (⟨#[]⟩ : ByteArray).toList) then
  (some (0, 0))
  else
  (Option.bind (bx a0 0) fun (c2 : Int) =>
    Option.bind ((Option.bind ((bif (c2 == 110) then
        (some (Sum.inl 10))
        else
        (Option.bind (bif (c2 == 92) then
            (some (c2 == 92))
            else
            (Option.bind (bif (c2 == 34) then
                (some (c2 == 34))
                else
                (some (c2 == 39))) fun (j23 : Bool) =>
              some j23)) fun (j17 : Bool) =>
          bif j17 then
          (some (Sum.inl c2))
          else
          (bif (c2 == 116) then
            (some (Sum.inr (Sum.inr (9, 1))))
            else
            (bif (c2 == 114) then
              (some (Sum.inr (Sum.inr (13, 1))))
              else
              (bif (c2 == 120) then
                (Option.bind ((Option.bind (bif (decide ((a0.size : Int) > 2)) then
                      (Option.bind (bx a0 1) fun (c39 : Int) =>
                        bif (lex_hex c39) then
                        (Option.bind (bx a0 2) fun (c42 : Int) =>
                          some (lex_hex c42))
                        else
                        (some false))
                      else
                      (some false)) fun (j33 : Bool) =>
                    Option.bind ((bif j33 then
                      (Option.bind (sx a0 1 3) fun (s52 : ByteArray) =>
                        Option.bind (strconv_ParseUint_c s52 16 8) fun (y53 : Int × Unit) =>
                        bif (decide (y53.1 < 128)) then
                        (some (Sum.inr (Sum.inr ((IntKind.wrap .u8 y53.1), 3))))
                        else
                        (some (Sum.inl ())))
                      else
                      (some (Sum.inl ())) : Option ((Unit) ⊕ ((Unit) ⊕ (Int × Int))))) fun (j44 : (Unit) ⊕ ((Unit) ⊕ (Int × Int))) =>
                    match j44 with
                    | Sum.inl j46 => some (Sum.inl ())
                    | Sum.inr v56 => some v56 : Option ((Unit) ⊕ (Int × Int)))) fun (v57 : (Unit) ⊕ (Int × Int)) =>
                  some (Sum.inr v57))
                else
                (some (Sum.inr (Sum.inl ()))))))) : Option ((Int) ⊕ ((Unit) ⊕ (Int × Int))))) fun (j10 : (Int) ⊕ ((Unit) ⊕ (Int × Int))) =>
      match j10 with
      | Sum.inl j12 => some (Sum.inr (j12, 1))
      | Sum.inr v60 => some v60 : Option ((Unit) ⊕ (Int × Int)))) fun (j4 : (Unit) ⊕ (Int × Int)) =>
    match j4 with
    | Sum.inl j6 => some (0, 0)
    | Sum.inr v61 => some v61)
theorem lex_escape_ev (a0 : ByteArray) : OLe (lex_escape_c a0) (lex_escape a0) := by
  unfold lex_escape_c lex_escape
  exact (OLe.cond (OLe.refl _) (OLe.bind (OLe.refl _) (fun _ => (OLe.bind (OLe.bind (OLe.cond (OLe.refl _) (OLe.bind (OLe.cond (OLe.refl _) (OLe.bind (OLe.cond (OLe.refl _) (OLe.refl _)) (fun _ => (OLe.refl _)))) (fun _ => (OLe.cond (OLe.refl _) (OLe.cond (OLe.refl _) (OLe.cond (OLe.refl _) (OLe.cond (OLe.bind (OLe.bind (OLe.cond (OLe.bind (OLe.refl _) (fun _ => (OLe.cond (OLe.bind (OLe.refl _) (fun _ => (OLe.refl _))) (OLe.refl _)))) (OLe.refl _)) (fun _ => (OLe.bind (OLe.cond (OLe.bind (OLe.refl _) (fun _ => (OLe.bind (strconv_ParseUint_ev _ _ _) (fun _ => (OLe.cond (OLe.refl _) (OLe.refl _)))))) (OLe.refl _)) (fun j => by cases j with | inl a => exact (OLe.refl _) | inr b => exact (OLe.refl _))))) (fun _ => (OLe.refl _))) (OLe.refl _)))))))) (fun j => by cases j with | inl a => exact (OLe.refl _) | inr b => exact (OLe.refl _))) (fun j => by cases j with | inl a => exact (OLe.refl _) | inr b => exact (OLe.refl _))))))
noncomputable def strings_Builder_WriteByte_c (a0 : S50) (a1 : Int) : Option (Unit × S50) :=
  Option.bind (app ((strings_Builder_copyCheck (⟨a0.f1⟩ : S50)).f1) [a1]) fun (zs14 : List Int) =>
  some ((), (⟨zs14⟩ : S50))
theorem strings_Builder_WriteByte_ev (a0 : S50) (a1 : Int) : OLe (strings_Builder_WriteByte_c a0 a1) (strings_Builder_WriteByte a0 a1) := by
  unfold strings_Builder_WriteByte_c strings_Builder_WriteByte
  exact (OLe.bind (OLe.refl _) (fun _ => (OLe.refl _)))
noncomputable def utf8_appendRuneNonASCII_f79_c (a0 : List Int) (a1 : Int) : Option (List Int) :=
  bif (decide ((IntKind.wrap .u32 a1) ≤ 2047)) then
  (Option.bind (app a0 [(bitOr .u8 192 (IntKind.wrap .u8 (shr .i32 a1 6))), (bitOr .u8 128 (bitAnd .u8 (IntKind.wrap .u8 a1) 63))]) fun (zs6 : List Int) =>
    some zs6)
  else
  (Option.bind (bif (decide ((IntKind.wrap .u32 a1) < 55296)) then
      (some (decide ((IntKind.wrap .u32 a1) < 55296)))
      else
      (some ((decide (57343 < (IntKind.wrap .u32 a1))) && (decide ((IntKind.wrap .u32 a1) ≤ 65535))))) fun (j12 : Bool) =>
    bif j12 then
    (Option.bind (app a0 [(bitOr .u8 224 (IntKind.wrap .u8 (shr .i32 a1 12))), (bitOr .u8 128 (bitAnd .u8 (IntKind.wrap .u8 (shr .i32 a1 6)) 63)), (bitOr .u8 128 (bitAnd .u8 (IntKind.wrap .u8 a1) 63))]) fun (zs29 : List Int) =>
      some zs29)
    else
    (bif ((decide ((IntKind.wrap .u32 a1) > 65535)) && (decide ((IntKind.wrap .u32 a1) ≤ 1114111))) then
      (Option.bind (app a0 [(bitOr .u8 240 (IntKind.wrap .u8 (shr .i32 a1 18))), (bitOr .u8 128 (bitAnd .u8 (IntKind.wrap .u8 (shr .i32 a1 12)) 63)), (bitOr .u8 128 (bitAnd .u8 (IntKind.wrap .u8 (shr .i32 a1 6)) 63)), (bitOr .u8 128 (bitAnd .u8 (IntKind.wrap .u8 a1) 63))]) fun (zs46 : List Int) =>
        some zs46)
      else
      (Option.bind (app a0 [239, 191, 189]) fun (zs56 : List Int) =>
        some zs56)))
theorem utf8_appendRuneNonASCII_f79_ev (a0 : List Int) (a1 : Int) : OLe (utf8_appendRuneNonASCII_f79_c a0 a1) (utf8_appendRuneNonASCII_f79 a0 a1) := by
  unfold utf8_appendRuneNonASCII_f79_c utf8_appendRuneNonASCII_f79
  exact (OLe.cond (OLe.bind (OLe.refl _) (fun _ => (OLe.refl _))) (OLe.bind (OLe.cond (OLe.refl _) (OLe.refl _)) (fun _ => (OLe.cond (OLe.bind (OLe.refl _) (fun _ => (OLe.refl _))) (OLe.cond (OLe.bind (OLe.refl _) (fun _ => (OLe.refl _))) (OLe.bind (OLe.refl _) (fun _ => (OLe.refl _))))))))
noncomputable def utf8_AppendRune_f71_c (a0 : List Int) (a1 : Int) : Option (List Int) :=
  bif (decide ((IntKind.wrap .u32 a1) ≤ 127)) then
  (Option.bind (app a0 [(IntKind.wrap .u8 a1)]) fun (zs6 : List Int) =>
    some zs6)
  else
  (Option.bind (utf8_appendRuneNonASCII_f79_c a0 a1) fun (y12 : (List Int)) =>
    some y12)
theorem utf8_AppendRune_f71_ev (a0 : List Int) (a1 : Int) : OLe (utf8_AppendRune_f71_c a0 a1) (utf8_AppendRune_f71 a0 a1) := by
  unfold utf8_AppendRune_f71_c utf8_AppendRune_f71
  exact (OLe.cond (OLe.bind (OLe.refl _) (fun _ => (OLe.refl _))) (OLe.bind (utf8_appendRuneNonASCII_f79_ev _ _) (fun _ => (OLe.refl _))))
noncomputable def strings_Builder_WriteRune_c (a0 : S50) (a1 : Int) : Option (Int × Unit × S50) :=
  Option.bind (utf8_AppendRune_f71_c ((strings_Builder_copyCheck (⟨a0.f1⟩ : S50)).f1) a1) fun (y10 : (List Int)) =>
  some ((IntKind.wrap .i64 ((y10.length : Int) - (((strings_Builder_copyCheck (⟨a0.f1⟩ : S50)).f1).length : Int))), (), (⟨y10⟩ : S50))
theorem strings_Builder_WriteRune_ev (a0 : S50) (a1 : Int) : OLe (strings_Builder_WriteRune_c a0 a1) (strings_Builder_WriteRune a0 a1) := by
  unfold strings_Builder_WriteRune_c strings_Builder_WriteRune
  exact (OLe.bind (utf8_AppendRune_f71_ev _ _) (fun _ => (OLe.refl _)))
noncomputable def lex_quoted_l32_c (a0 : ByteArray) (c2 : Int) : (Unit × (List Int) × Int) → Option ((Unit × (List Int) × Int) ⊕ ((Unit) ⊕ (ByteArray × Int))) := fun s16 =>
  bif (decide (s16.2.2 < (a0.size : Int))) then
  (Option.bind (sx a0 s16.2.2 (a0.size : Int)) fun (s36 : ByteArray) =>
    Option.bind (utf8_DecodeRuneInString_c s36) fun (y37 : Int × Int) =>
    bif (y37.1 == (IntKind.wrap .i32 c2)) then
    (Option.bind (strings_Builder_String (⟨s16.2.1⟩ : S50)) fun (y40 : ByteArray) =>
      some (Sum.inr (Sum.inr (y40, (IntKind.wrap .i64 (s16.2.2 + 1))))))
    else
    (Option.bind (bif ((y37.1 == 65533) && (y37.2 == 1)) then
        (some ((y37.1 == 65533) && (y37.2 == 1)))
        else
        (some (y37.1 == 10))) fun (j51 : Bool) =>
      bif j51 then
      (some (Sum.inr (Sum.inr ((⟨#[]⟩ : ByteArray), 0))))
      else
      (Option.bind ((bif (y37.1 == 92) then
          (Option.bind (sx a0 (IntKind.wrap .i64 (s16.2.2 + 1)) (a0.size : Int)) fun (s72 : ByteArray) =>
            Option.bind (lex_escape_c s72) fun (y73 : Int × Int) =>
            bif (y73.2 == 0) then
            (some (Sum.inr (Sum.inr (Sum.inr ((⟨#[]⟩ : ByteArray), 0)))))
            else
            (Option.bind (strings_Builder_WriteByte_c (⟨s16.2.1⟩ : S50) y73.1) fun (y76 : Unit × S50) =>
              some (Sum.inl ((IntKind.wrap .i64 (s16.2.2 + (IntKind.wrap .i64 (1 + y73.2)))), (), y76.2.f1))))
          else
          (Option.bind (strings_Builder_WriteRune_c (⟨s16.2.1⟩ : S50) y37.1) fun (y87 : Int × Unit × S50) =>
            some (Sum.inl ((IntKind.wrap .i64 (s16.2.2 + y37.2)), (), y87.2.2.f1))) : Option ((Int × Unit × (List Int)) ⊕ ((Unit × (List Int) × Int) ⊕ ((Unit) ⊕ (ByteArray × Int)))))) fun (j58 : (Int × Unit × (List Int)) ⊕ ((Unit × (List Int) × Int) ⊕ ((Unit) ⊕ (ByteArray × Int)))) =>
        match j58 with
        | Sum.inl j60 => some (Sum.inl ((), j60.2.2, j60.1))
        | Sum.inr v98 => some v98)))
  else
  (some (Sum.inr (Sum.inl ())))
theorem lex_quoted_l32_ev (a0 : ByteArray) (c2 : Int) (s16 : Unit × (List Int) × Int) : OLe (lex_quoted_l32_c a0 c2 s16) (lex_quoted_l32 a0 c2 s16) := by
  unfold lex_quoted_l32_c lex_quoted_l32
  exact (OLe.cond (OLe.bind (OLe.refl _) (fun _ => (OLe.bind (utf8_DecodeRuneInString_ev _) (fun _ => (OLe.cond (OLe.bind (OLe.refl _) (fun _ => (OLe.refl _))) (OLe.bind (OLe.cond (OLe.refl _) (OLe.refl _)) (fun _ => (OLe.cond (OLe.refl _) (OLe.bind (OLe.cond (OLe.bind (OLe.refl _) (fun _ => (OLe.bind (lex_escape_ev _) (fun _ => (OLe.cond (OLe.refl _) (OLe.bind (strings_Builder_WriteByte_ev _ _) (fun _ => (OLe.refl _)))))))) (OLe.bind (strings_Builder_WriteRune_ev _ _) (fun _ => (OLe.refl _)))) (fun j => by cases j with | inl a => exact (OLe.refl _) | inr b => exact (OLe.refl _))))))))))) (OLe.refl _))
noncomputable def lex_quoted_c (a0 : ByteArray) : Option (ByteArray × Int) :=
  Option.bind (bx a0 0) fun (c2 : Int) =>
  Option.bind (loopF 1000000 (lex_quoted_l32_c a0 c2) ((), [], 1)) fun (r14 : (Unit) ⊕ (ByteArray × Int)) =>
  match r14 with
  | Sum.inl r28 => some ((⟨#[]⟩ : ByteArray), 0)
  | Sum.inr v99 => some v99
theorem lex_quoted_ev (a0 : ByteArray) : OLe (lex_quoted_c a0) (lex_quoted a0) := by
  unfold lex_quoted_c lex_quoted
  exact (OLe.bind (OLe.refl _) (fun _ => (OLe.bind (OLe.loop (fun _ => lex_quoted_l32_ev _ _ _)) (fun j => by cases j with | inl a => exact (OLe.refl _) | inr b => exact (OLe.refl _)))))
noncomputable def lex_one_l89_c (a0 : ByteArray) : Int → Option ((Int) ⊕ ((Unit) ⊕ (S27 × Int))) := fun s79 =>
  bif (decide (s79 < (lex_signs.length : Int))) then
  (Option.bind (ix lex_signs s79) fun (x92 : ByteArray) =>
    Option.bind (strings_HasPrefix_c a0 x92) fun (y101 : Bool) =>
    bif y101 then
    (some (Sum.inr (Sum.inr ((⟨5, x92, 0⟩ : S27), (x92.size : Int)))))
    else
    (some (Sum.inl (IntKind.wrap .i64 (s79 + 1)))))
  else
  (some (Sum.inr (Sum.inl ())))
theorem lex_one_l89_ev (a0 : ByteArray) (s79 : Int) : OLe (lex_one_l89_c a0 s79) (lex_one_l89 a0 s79) := by
  unfold lex_one_l89_c lex_one_l89
  exact (OLe.cond (OLe.bind (OLe.refl _) (fun _ => (OLe.bind (strings_HasPrefix_ev _ _) (fun _ => (OLe.cond (OLe.refl _) (OLe.refl _)))))) (OLe.refl _))
noncomputable def lex_one_c (a0 : ByteArray) : Option (S27 × Int) :=
  Option.bind (bx a0 0) fun (c2 : Int) =>
  bif (lex_letter c2) then
  (Option.bind (lex_run_c a0 0 (fun x0 => some (lex_one_1 x0))) fun (y5 : Int) =>
    Option.bind (sx a0 0 y5) fun (s8 : ByteArray) =>
    some ((⟨1, s8, 0⟩ : S27), y5))
  else
  (bif ((lex_digit c2) || (c2 == 46)) then
    (Option.bind (lex_number_c a0) fun (y20 : Int) =>
      Option.bind (lex_span_c a0) fun (y22 : Int × Int) =>
      Option.bind (bif (decide (y22.1 > y20)) then
        (some (3, y22.1))
        else
        (some (2, y20))) fun (j24 : Int × Int) =>
      Option.bind (bif (decide (j24.2 < (a0.size : Int))) then
        (Option.bind (bx a0 j24.2) fun (c36 : Int) =>
          bif (lex_letter c36) then
          (some true)
          else
          (Option.bind (bx a0 j24.2) fun (c39 : Int) =>
            bif (lex_digit c39) then
            (some true)
            else
            (Option.bind (bx a0 j24.2) fun (c42 : Int) =>
              some (c42 == 46))))
        else
        (some false)) fun (j30 : Bool) =>
      bif j30 then
      (some ((⟨0, (⟨#[]⟩ : ByteArray), 0⟩ : S27), 0))
      else
      (Option.bind (sx a0 0 j24.2) fun (s50 : ByteArray) =>
        some ((⟨j24.1, s50, 0⟩ : S27), j24.2)))
    else
    (bif ((c2 == 34) || (c2 == 39)) then
      (Option.bind (lex_quoted_c a0) fun (y60 : ByteArray × Int) =>
        some ((⟨4, y60.1, 0⟩ : S27), y60.2))
      else
      (Option.bind (loopF 1000000 (lex_one_l89_c a0) 0) fun (r77 : (Unit) ⊕ (S27 × Int)) =>
        match r77 with
        | Sum.inl r85 => some ((⟨0, (⟨#[]⟩ : ByteArray), 0⟩ : S27), 0)
        | Sum.inr v112 => some v112)))
theorem lex_one_ev (a0 : ByteArray) : OLe (lex_one_c a0) (lex_one a0) := by
  unfold lex_one_c lex_one
  exact (OLe.bind (OLe.refl _) (fun _ => (OLe.cond (OLe.bind (lex_run_ev _ _ (fun _ => OLe.refl _)) (fun _ => (OLe.bind (OLe.refl _) (fun _ => (OLe.refl _))))) (OLe.cond (OLe.bind (lex_number_ev _) (fun _ => (OLe.bind (lex_span_ev _) (fun _ => (OLe.bind (OLe.cond (OLe.refl _) (OLe.refl _)) (fun _ => (OLe.bind (OLe.cond (OLe.bind (OLe.refl _) (fun _ => (OLe.cond (OLe.refl _) (OLe.bind (OLe.refl _) (fun _ => (OLe.cond (OLe.refl _) (OLe.bind (OLe.refl _) (fun _ => (OLe.refl _))))))))) (OLe.refl _)) (fun _ => (OLe.cond (OLe.refl _) (OLe.bind (OLe.refl _) (fun _ => (OLe.refl _)))))))))))) (OLe.cond (OLe.bind (lex_quoted_ev _) (fun _ => (OLe.refl _))) (OLe.bind (OLe.loop (fun _ => lex_one_l89_ev _ _)) (fun j => by cases j with | inl a => exact (OLe.refl _) | inr b => exact (OLe.refl _))))))))
noncomputable def lex_alone_c (a0 : ByteArray) (a1 : Int) : Option Bool :=
  bif (a0.toList == (⟨#[]⟩ : ByteArray).toList) then
  (some false)
  else
  (Option.bind (lex_one_c a0) fun (y2 : S27 × Int) =>
    some ((y2.2 == (a0.size : Int)) && (y2.1.f0 == a1)))
theorem lex_alone_ev (a0 : ByteArray) (a1 : Int) : OLe (lex_alone_c a0 a1) (lex_alone a0 a1) := by
  unfold lex_alone_c lex_alone
  exact (OLe.cond (OLe.refl _) (OLe.bind (lex_one_ev _) (fun _ => (OLe.refl _))))
noncomputable def strings_Builder_WriteString_c (a0 : S50) (a1 : ByteArray) : Option (Int × Unit × S50) :=
  Option.bind (app ((strings_Builder_copyCheck (⟨a0.f1⟩ : S50)).f1) (bytesOf a1)) fun (zs10 : List Int) =>
  some ((a1.size : Int), (), (⟨zs10⟩ : S50))
theorem strings_Builder_WriteString_ev (a0 : S50) (a1 : ByteArray) : OLe (strings_Builder_WriteString_c a0 a1) (strings_Builder_WriteString a0 a1) := by
  unfold strings_Builder_WriteString_c strings_Builder_WriteString
  exact (OLe.bind (OLe.refl _) (fun _ => (OLe.refl _)))
noncomputable def lex_skip_l20_c (a1 : Int) (s2 : ByteArray) : (Nat × Bool) → Option ((Nat × Bool) ⊕ ((Unit) ⊕ (Int))) := fun s10 =>
  bif decide (s10.1 < s2.size) then
  (Option.bind ((bif ((runeAt s2 s10.1) == 10) then
      (some (Sum.inl false))
      else
      (Option.bind ((bif (((s10.2 || ((runeAt s2 s10.1) == 32)) || ((runeAt s2 s10.1) == 9)) || ((runeAt s2 s10.1) == 13)) then
          (some (Sum.inl s10.2))
          else
          (bif ((runeAt s2 s10.1) == 35) then
            (some (Sum.inl true))
            else
            (some (Sum.inr (Sum.inr (Sum.inr (Sum.inr (IntKind.wrap .i64 (a1 + (s10.1 : Int))))))))) : Option ((Bool) ⊕ ((Bool) ⊕ ((Nat × Bool) ⊕ ((Unit) ⊕ (Int))))))) fun (j38 : (Bool) ⊕ ((Bool) ⊕ ((Nat × Bool) ⊕ ((Unit) ⊕ (Int))))) =>
        match j38 with
        | Sum.inl j40 => some (Sum.inl j40)
        | Sum.inr v46 => some v46) : Option ((Bool) ⊕ ((Nat × Bool) ⊕ ((Unit) ⊕ (Int)))))) fun (j23 : (Bool) ⊕ ((Nat × Bool) ⊕ ((Unit) ⊕ (Int)))) =>
    match j23 with
    | Sum.inl j25 => some (Sum.inl ((s10.1 + runeW s2 s10.1), j25))
    | Sum.inr v47 => some v47)
  else
  (some (Sum.inr (Sum.inl ())))
theorem lex_skip_l20_ev (a1 : Int) (s2 : ByteArray) (s10 : Nat × Bool) : OLe (lex_skip_l20_c a1 s2 s10) (lex_skip_l20 a1 s2 s10) := by
  unfold lex_skip_l20_c lex_skip_l20
  exact (OLe.cond (OLe.bind (OLe.cond (OLe.refl _) (OLe.bind (OLe.cond (OLe.refl _) (OLe.cond (OLe.refl _) (OLe.refl _))) (fun j => by cases j with | inl a => exact (OLe.refl _) | inr b => exact (OLe.refl _)))) (fun j => by cases j with | inl a => exact (OLe.refl _) | inr b => exact (OLe.refl _))) (OLe.refl _))
noncomputable def lex_skip_c (a0 : ByteArray) (a1 : Int) : Option Int :=
  Option.bind (sx a0 a1 (a0.size : Int)) fun (s2 : ByteArray) =>
  Option.bind (loopF 1000000 (lex_skip_l20_c a1 s2) (0, false)) fun (r8 : (Unit) ⊕ (Int)) =>
  match r8 with
  | Sum.inl r16 => some (a0.size : Int)
  | Sum.inr v48 => some v48
theorem lex_skip_ev (a0 : ByteArray) (a1 : Int) : OLe (lex_skip_c a0 a1) (lex_skip a0 a1) := by
  unfold lex_skip_c lex_skip
  exact (OLe.bind (OLe.refl _) (fun _ => (OLe.bind (OLe.loop (fun _ => lex_skip_l20_ev _ _ _)) (fun j => by cases j with | inl a => exact (OLe.refl _) | inr b => exact (OLe.refl _)))))
noncomputable def lex_Tokens_l32_c (a0 : ByteArray) : ((List S27) × Int) → Option (((List S27) × Int) ⊕ (((List S27)) ⊕ ((List S27) × Int × Int))) := fun s14 =>
  bif (decide (s14.2 < (a0.size : Int))) then
  (Option.bind (sx a0 s14.2 (a0.size : Int)) fun (s36 : ByteArray) =>
    Option.bind (lex_one_c s36) fun (y37 : S27 × Int) =>
    bif (y37.2 == 0) then
    (some (Sum.inr (Sum.inr ([], 130, s14.2))))
    else
    (Option.bind (app s14.1 [(⟨y37.1.f0, y37.1.f1, s14.2⟩ : S27)]) fun (zs45 : List S27) =>
      Option.bind (lex_skip_c a0 (IntKind.wrap .i64 (s14.2 + y37.2))) fun (y51 : Int) =>
      some (Sum.inl (zs45, y51))))
  else
  (some (Sum.inr (Sum.inl s14.1)))
theorem lex_Tokens_l32_ev (a0 : ByteArray) (s14 : (List S27) × Int) : OLe (lex_Tokens_l32_c a0 s14) (lex_Tokens_l32 a0 s14) := by
  unfold lex_Tokens_l32_c lex_Tokens_l32
  exact (OLe.cond (OLe.bind (OLe.refl _) (fun _ => (OLe.bind (lex_one_ev _) (fun _ => (OLe.cond (OLe.refl _) (OLe.bind (OLe.refl _) (fun _ => (OLe.bind (lex_skip_ev _ _) (fun _ => (OLe.refl _)))))))))) (OLe.refl _))
noncomputable def lex_Tokens_c (a0 : ByteArray) : Option ((List S27) × Int × Int) :=
  bif (decide ((a0.size : Int) > 65536)) then
  (some ([], 4, 0))
  else
  (Option.bind (lex_skip_c a0 0) fun (y2 : Int) =>
    Option.bind (loopF 1000000 (lex_Tokens_l32_c a0) ([], y2)) fun (r12 : ((List S27)) ⊕ ((List S27) × Int × Int)) =>
    match r12 with
    | Sum.inl r24 => Option.bind (app r24 [(⟨0, (⟨#[]⟩ : ByteArray), (a0.size : Int)⟩ : S27)]) fun (zs57 : List S27) =>
      bif (decide ((zs57.length : Int) > 4096)) then
      (some ([], 7, 0))
      else
      (some (zs57, 0, 0))
    | Sum.inr v64 => some v64)
theorem lex_Tokens_ev (a0 : ByteArray) : OLe (lex_Tokens_c a0) (lex_Tokens a0) := by
  unfold lex_Tokens_c lex_Tokens
  exact (OLe.cond (OLe.refl _) (OLe.bind (lex_skip_ev _ _) (fun _ => (OLe.bind (OLe.loop (fun _ => lex_Tokens_l32_ev _ _)) (fun j => by cases j with | inl a => exact (OLe.bind (OLe.refl _) (fun _ => (OLe.cond (OLe.refl _) (OLe.refl _)))) | inr b => exact (OLe.refl _))))))
noncomputable def lex_Span_c (a0 : ByteArray) : Option (Int × Int) :=
  Option.bind (lex_alone_c a0 3) fun (y1 : Bool) =>
  bif (!y1) then
  (some (0, 130))
  else
  (Option.bind (lex_span_c a0) fun (y4 : Int × Int) =>
    bif (decide (y4.2 > 1099511627776)) then
    (some (0, 7))
    else
    (some (y4.2, 0)))
theorem lex_Span_ev (a0 : ByteArray) : OLe (lex_Span_c a0) (lex_Span a0) := by
  unfold lex_Span_c lex_Span
  exact (OLe.bind (lex_alone_ev _ _) (fun _ => (OLe.cond (OLe.refl _) (OLe.bind (lex_span_ev _) (fun _ => (OLe.cond (OLe.refl _) (OLe.refl _)))))))
noncomputable def strconv_FormatInt_c (a0 a1 : Int) : Option ByteArray := strconv_FormatInt a0 a1
theorem strconv_FormatInt_ev (a0 a1 : Int) : OLe (strconv_FormatInt_c a0 a1) (strconv_FormatInt a0 a1) := OLe.refl _
noncomputable def lex_SpanText_l50_c : (Unit × (List Int) × Int × Int) → Option ((Unit × (List Int) × Int × Int) ⊕ (Unit × (List Int))) := fun s29 =>
  bif (decide (s29.2.2.2 < (lex_units.length : Int))) then
  (Option.bind (ix lex_units s29.2.2.2) fun (x53 : S62) =>
    Option.bind (quox .i64 s29.2.2.1 x53.f1) fun (q63 : Int) =>
    Option.bind (bif (decide (q63 > 0)) then
      (Option.bind (strconv_FormatInt_c q63 10) fun (y77 : ByteArray) =>
        Option.bind (sadd y77 x53.f0) fun (s79 : ByteArray) =>
        Option.bind (strings_Builder_WriteString_c (⟨s29.2.1⟩ : S50) s79) fun (y81 : Int × Unit × S50) =>
        some ((IntKind.wrap .i64 (s29.2.2.1 - (IntKind.wrap .i64 (q63 * x53.f1)))), (), y81.2.2.f1))
      else
      (some (s29.2.2.1, (), s29.2.1))) fun (j65 : Int × Unit × (List Int)) =>
    some (Sum.inl ((), j65.2.2, j65.1, (IntKind.wrap .i64 (s29.2.2.2 + 1)))))
  else
  (some (Sum.inr ((), s29.2.1)))
theorem lex_SpanText_l50_ev  (s29 : Unit × (List Int) × Int × Int) : OLe (lex_SpanText_l50_c  s29) (lex_SpanText_l50  s29) := by
  unfold lex_SpanText_l50_c lex_SpanText_l50
  exact (OLe.cond (OLe.bind (OLe.refl _) (fun _ => (OLe.bind (OLe.refl _) (fun _ => (OLe.bind (OLe.cond (OLe.bind (strconv_FormatInt_ev _ _) (fun _ => (OLe.bind (OLe.refl _) (fun _ => (OLe.bind (strings_Builder_WriteString_ev _ _) (fun _ => (OLe.refl _))))))) (OLe.refl _)) (fun _ => (OLe.refl _))))))) (OLe.refl _))
noncomputable def lex_SpanText_c (a0 : Int) : Option (ByteArray × Int) :=
  bif ((decide (a0 < 0)) || (decide (a0 > 1099511627776))) then
  (some ((⟨#[]⟩ : ByteArray), 1))
  else
  (bif (a0 == 0) then
    (some ((⟨#[48, 115]⟩ : ByteArray), 0))
    else
    (Option.bind (loopF 1000000 lex_SpanText_l50_c ((), [], a0, 0)) fun (r27 : Unit × (List Int)) =>
      Option.bind (strings_Builder_String (⟨r27.2⟩ : S50)) fun (y92 : ByteArray) =>
      some (y92, 0)))
theorem lex_SpanText_ev (a0 : Int) : OLe (lex_SpanText_c a0) (lex_SpanText a0) := by
  unfold lex_SpanText_c lex_SpanText
  exact (OLe.cond (OLe.refl _) (OLe.cond (OLe.refl _) (OLe.bind (OLe.loop (fun _ => lex_SpanText_l50_ev  _)) (fun _ => (OLe.bind (OLe.refl _) (fun _ => (OLe.refl _)))))))
noncomputable def tocsinlaw13_known_c : Option Bool :=
  Option.bind (lex_Tokens_c (⟨#[97, 58, 98, 123, 120, 61, 126, 34, 99, 46, 42, 34, 125, 91, 53, 109, 93, 32, 62, 32, 49, 46, 53, 101, 51, 32, 35, 32, 101, 110, 100]⟩ : ByteArray)) fun (y1 : (List S27) × Int × Int) =>
  Option.bind (lex_Span_c (⟨#[49, 104, 51, 48, 109]⟩ : ByteArray)) fun (y10 : Int × Int) =>
  Option.bind (lex_SpanText_c 1500) fun (y12 : ByteArray × Int) =>
  Option.bind (bif (y1.2.1 == 0) then
    (bif ((y1.1.length : Int) == 12) then
      (Option.bind (ix y1.1 4) fun (x21 : S27) =>
        bif (x21.f1.toList == (⟨#[99, 46, 42]⟩ : ByteArray).toList) then
        (Option.bind (ix y1.1 7) fun (x31 : S27) =>
          bif (x31.f0 == 3) then
          (bif (y10.2 == 0) then
            (bif (y10.1 == 5400000) then
              (bif (y12.2 == 0) then
                (some (y12.1.toList == (⟨#[49, 115, 53, 48, 48, 109, 115]⟩ : ByteArray).toList))
                else
                (some false))
              else
              (some false))
            else
            (some false))
          else
          (some false))
        else
        (some false))
      else
      (some false))
    else
    (some false)) fun (j14 : Bool) =>
  some j14
theorem tocsinlaw13_known_ev  : OLe (tocsinlaw13_known_c ) (tocsinlaw13_known ) := by
  unfold tocsinlaw13_known_c tocsinlaw13_known
  exact (OLe.bind (lex_Tokens_ev _) (fun _ => (OLe.bind (lex_Span_ev _) (fun _ => (OLe.bind (lex_SpanText_ev _) (fun _ => (OLe.bind (OLe.cond (OLe.cond (OLe.bind (OLe.refl _) (fun _ => (OLe.cond (OLe.bind (OLe.refl _) (fun _ => (OLe.cond (OLe.cond (OLe.cond (OLe.cond (OLe.refl _) (OLe.refl _)) (OLe.refl _)) (OLe.refl _)) (OLe.refl _)))) (OLe.refl _)))) (OLe.refl _)) (OLe.refl _)) (fun _ => (OLe.refl _)))))))))
end Go.Proofs.YtlhpclfkoblnkaaDoor

/- Plain laws: the program's scans: durations, signs, texts in quotes, one token, blanks, tokens. -/
set_option linter.unusedVariables false
set_option maxRecDepth 100000
namespace Go.GB
open Go.Lib
/-- A search that goes up from a place on. -/
theorem up_find_from {ρ : Type} {body : Int → Option (Int ⊕ (Unit ⊕ ρ))} {n : Nat} (p : Nat → Option ρ) (h : ∀ i : Nat, i < n → body i = some (match p i with | some r => .inr (.inr r) | none => .inl ((i + 1 : Nat) : Int))) (he : body n = some (.inr (.inl ()))) :
    ∀ d i : Nat, i + d = n → loopO body i = some (match (List.range' i d).findSome? p with | some r => .inr r | none => .inl ()) := by
  intro d
  induction d with
  | zero =>
    intro i hi
    have : i = n := by omega
    subst this
    simp [loopO_done he]
  | succ d ih =>
    intro i hi
    have h1 := h i (by omega)
    rw [List.range'_succ, List.findSome?_cons]
    cases hp : p i with
    | some r => rw [hp] at h1; rw [loopO_done h1]
    | none => rw [hp] at h1; rw [loopO_step h1]; exact ih (i + 1) (by omega)
theorem findSome_if {α : Type} (c : Nat → Bool) (g : Nat → α) (l : List Nat) : l.findSome? (fun i => if c i then some (g i) else none) = (l.find? c).map g := by
  induction l with
  | nil => rfl
  | cons x l ih =>
    rw [List.findSome?_cons, List.find?_cons]
    cases hc : c x with
    | true => simp
    | false => simpa using ih
end Go.GB
namespace Go.Proofs.YtlhpclfkoblnkaaDoor
open Go.GB Go.Lib
theorem lex_units_at {i : Nat} (h : i < 7) : ∃ u : S62, lex_units[i]? = some u ∧ tl u.f0 = uName i ∧ u.f1 = (uMs i : Int) := by
  match i, h with
  | 0, _ => exact ⟨_, rfl, rfl, rfl⟩
  | 1, _ => exact ⟨_, rfl, rfl, rfl⟩
  | 2, _ => exact ⟨_, rfl, rfl, rfl⟩
  | 3, _ => exact ⟨_, rfl, rfl, rfl⟩
  | 4, _ => exact ⟨_, rfl, rfl, rfl⟩
  | 5, _ => exact ⟨_, rfl, rfl, rfl⟩
  | 6, _ => exact ⟨_, rfl, rfl, rfl⟩
theorem uMs_pos {i : Nat} (h : i < 7) : 1 ≤ uMs i ∧ uMs i ≤ 31536000000 := by
  have : ∀ j : Fin 7, 1 ≤ uMs j.val ∧ uMs j.val ≤ 31536000000 := by decide
  exact this ⟨i, h⟩
theorem times_loop {s : ByteArray} (hs : s.size < 4294967296) (hd : ∀ i, i < s.size → digN (gB (tl s) i) = true) : ∀ (d i n : Nat), i + d = s.size → n ≤ maxS + 1 →
    loopO (lex_times_l16 s) ((n : Int), (i : Int)) = some ((((tl s).drop i).foldl (fun n c => min (n * 10 + (c.toNat - 48)) (maxS + 1)) n : Nat) : Int)
  | 0, i, n, hi, hn => by
    have hl := tl_len s
    refine (loopO_done (r := (n : Int)) ?_).trans ?_
    · unfold lex_times_l16; rw [decide_eq_false (by show ¬ ((i : Int) < (s.size : Int)); omega)]; rfl
    · rw [List.drop_eq_nil_of_le (by omega)]; rfl
  | d + 1, i, n, hi, hn => by
    have hl := tl_len s
    have hdg := hd i (by omega)
    have hlt : i < (tl s).length := by omega
    have hc : 48 ≤ gB (tl s) i ∧ gB (tl s) i ≤ 57 := by unfold digN at hdg; simpa using hdg
    have hM : maxS = 1099511627776 := rfl
    have hstep : lex_times_l16 s ((n : Int), (i : Int)) = some (.inl (((min (n * 10 + (gB (tl s) i - 48)) (maxS + 1) : Nat) : Int), ((i + 1 : Nat) : Int))) := by
      unfold lex_times_l16
      rw [decide_eq_true (by show ((i : Int) < (s.size : Int)); omega), cond_true]
      show Option.bind (bx s (i : Int)) _ = _
      rw [bx_tl (by omega), Option.bind_some]
      show some (Sum.inl ((if 1099511627777 < IntKind.wrap .i64 (IntKind.wrap .i64 ((n : Int) * 10) + IntKind.wrap .i64 (IntKind.wrap .u8 (((gB (tl s) i : Nat) : Int) - 48))) then 1099511627777 else IntKind.wrap .i64 (IntKind.wrap .i64 ((n : Int) * 10) + IntKind.wrap .i64 (IntKind.wrap .u8 (((gB (tl s) i : Nat) : Int) - 48)))), IntKind.wrap .i64 ((i : Int) + 1))) = _
      rw [wrapU8 (x := ((gB (tl s) i : Nat) : Int) - 48) (by omega) (by omega), wrapN (z := ((gB (tl s) i : Nat) : Int) - 48) (n := gB (tl s) i - 48) (by omega) (by omega), wrapN (z := (n : Int) * 10) (n := n * 10) (by omega) (by omega), wrapN (z := ((n * 10 : Nat) : Int) + ((gB (tl s) i - 48 : Nat) : Int)) (n := n * 10 + (gB (tl s) i - 48)) (by omega) (by omega), wrapN (n := i + 1) (by omega) (by omega)]
      congr 3
      split <;> omega
    rw [loopO_step hstep, times_loop hs hd d (i + 1) _ (by omega) (by omega), List.drop_eq_getElem_cons hlt, List.foldl_cons]
    simp [gB, List.getD, List.getElem?_eq_getElem hlt]
theorem foldl_le : ∀ (l : List UInt8) (n : Nat), n ≤ maxS + 1 → l.foldl (fun n c => min (n * 10 + (c.toNat - 48)) (maxS + 1)) n ≤ maxS + 1
  | [], n, h => h
  | c :: l, n, h => foldl_le l _ (Nat.min_le_right _ _)
theorem lex_times_eq {s : ByteArray} {i : Nat} (hs : s.size < 4294967296) (hd : ∀ i, i < s.size → digN (gB (tl s) i) = true) (h7 : i < 7) : lex_times s (uMs i : Int) = some ((timesL (tl s) (uMs i) : Nat) : Int) := by
  have hu := uMs_pos h7
  have hM : maxS = 1099511627776 := rfl
  unfold lex_times timesL
  have h := times_loop hs hd s.size 0 0 (by omega) (by omega)
  rw [List.drop_zero] at h
  refine bind_of h ?_
  have hle := foldl_le (tl s) 0 (by omega)
  generalize (tl s).foldl (fun n c => min (n * 10 + (c.toNat - 48)) (maxS + 1)) 0 = n at *
  have hq : quox .i64 1099511627776 (uMs i : Int) = some ((maxS / uMs i : Nat) : Int) := by
    unfold quox
    rw [if_pos (by omega), show (1099511627776 : Int) = ((maxS : Nat) : Int) from rfl]
    congr 1
    have : Int.tdiv ((maxS : Nat) : Int) (uMs i : Int) = ((maxS / uMs i : Nat) : Int) := by rw [Int.ofNat_tdiv]
    rw [this, wrapN (n := maxS / uMs i) rfl (by have := Nat.div_le_self maxS (uMs i); omega)]
  refine bind_of hq ?_
  have hdl := Nat.div_le_self maxS (uMs i)
  rw [wrapN (n := maxS / uMs i + 1) (by omega) (by omega)]
  by_cases hg : n > maxS / uMs i + 1
  · rw [decide_eq_true (by omega), cond_true, if_pos hg]; rfl
  · rw [decide_eq_false (by omega), cond_false, if_neg hg]
    have hmul : n * uMs i ≤ maxS + 1 * uMs i := by
      have h1 : n * uMs i ≤ (maxS / uMs i + 1) * uMs i := Nat.mul_le_mul_right _ (by omega)
      have h2 := Nat.div_mul_le_self maxS (uMs i)
      rw [Nat.add_mul] at h1; omega
    rw [wrapN (n := n * uMs i) (by rw [Int.natCast_mul]) (by omega)]
    congr 1
    split <;> omega
theorem timesL_le (d : List UInt8) (ms : Nat) : timesL d ms ≤ maxS + 1 := by
  unfold timesL; simp only; split
  · omega
  · exact Nat.min_le_right _ _
theorem unit_loop {s : ByteArray} (hs : s.size < 4294967296) {a first sum n k : Nat} (ha : a + n + k ≤ s.size) (hk : k = runL lowN ((tl s).drop (a + n))) (hn : ∀ i, i < n → digN (gB ((tl s).drop a) i) = true) (hsum : sum ≤ maxS + 1) :
    loopO (lex_span_l46 s ((a : Int), (first : Int), (sum : Int)) (n : Int) (k : Int)) 0 = some (match unitL ((tl s).drop (a + n)) first with
      | some i => .inr (.inl (((a + n + k : Nat) : Int), ((i + 1 : Nat) : Int), ((min (sum + timesL (((tl s).drop a).take n) (uMs i)) (maxS + 1) : Nat) : Int)))
      | none => .inl ()) := by
  have hl := tl_len s
  have hM : maxS = 1099511627776 := rfl
  have h := up_find_from (n := 7) (body := lex_span_l46 s ((a : Int), (first : Int), (sum : Int)) (n : Int) (k : Int))
    (fun i => if (decide (first ≤ i) && (((tl s).drop (a + n)).take (runL lowN ((tl s).drop (a + n))) == uName i)) then some (Sum.inl (((a + n + k : Nat) : Int), ((i + 1 : Nat) : Int), ((min (sum + timesL (((tl s).drop a).take n) (uMs i)) (maxS + 1) : Nat) : Int))) else none)
    (fun i hi => by
      obtain ⟨u, hu, hu1, hu2⟩ := lex_units_at hi
      unfold lex_span_l46
      rw [show ((lex_units.length : Nat) : Int) = 7 from rfl, decide_eq_true (by omega), cond_true]
      refine bind_of (a := u) (by rw [ix_nat]; exact hu) ?_
      refine bind_of (a := (decide (first ≤ i) && (((tl s).drop (a + n)).take (runL lowN ((tl s).drop (a + n))) == uName i))) ?_ ?_
      · show (bif decide ((i : Int) ≥ (first : Int)) then _ else _) = _
        by_cases hf : first ≤ i
        · rw [decide_eq_true (show (i : Int) ≥ (first : Int) by omega), cond_true, decide_eq_true hf, Bool.true_and]
          show Option.bind (sx s (IntKind.wrap .i64 ((a : Int) + (n : Int))) (IntKind.wrap .i64 ((a : Int) + IntKind.wrap .i64 ((n : Int) + (k : Int))))) _ = _
          rw [wrapN (n := a + n) (by omega) (by omega), wrapN (z := (n : Int) + (k : Int)) (n := n + k) (by omega) (by omega), wrapN (n := a + n + k) (by omega) (by omega), sx_tl (by omega) (by omega), Option.bind_some, tl_inj, tl_extract, hu1, show a + n + k - (a + n) = k from by omega, ← hk]
        · rw [decide_eq_false (show ¬ ((i : Int) ≥ (first : Int)) by omega), cond_false, decide_eq_false hf, Bool.false_and]
      · by_cases hc : (decide (first ≤ i) && (((tl s).drop (a + n)).take (runL lowN ((tl s).drop (a + n))) == uName i)) = true
        · rw [hc, cond_true, if_pos rfl]
          show Option.bind (sx s (a : Int) (IntKind.wrap .i64 ((a : Int) + (n : Int)))) _ = _
          rw [wrapN (n := a + n) (by omega) (by omega), sx_tl (by omega) (by omega), Option.bind_some]
          have ht : tl (s.extract a (a + n)) = ((tl s).drop a).take n := by rw [tl_extract, show a + n - a = n from by omega]
          have hsz : (s.extract a (a + n)).size = n := by rw [← tl_len, ht, List.length_take, List.length_drop]; omega
          have e := lex_times_eq (s := s.extract a (a + n)) (i := i) (by omega) (fun j hj => by
            rw [hsz] at hj
            rw [ht]
            have := hn j hj
            unfold gB at this ⊢
            rwa [List.getD_eq_getElem?_getD, List.getElem?_take, if_pos hj, ← List.getD_eq_getElem?_getD]) hi
          rw [← hu2] at e
          rw [e, Option.bind_some, ht]
          have ht2 := timesL_le (((tl s).drop a).take n) (uMs i)
          show some (Sum.inr (Sum.inr (Sum.inl (IntKind.wrap .i64 ((a : Int) + IntKind.wrap .i64 ((n : Int) + (k : Int))), IntKind.wrap .i64 ((i : Int) + 1), (if 1099511627777 < IntKind.wrap .i64 ((sum : Int) + ((timesL (((tl s).drop a).take n) (uMs i) : Nat) : Int)) then 1099511627777 else IntKind.wrap .i64 ((sum : Int) + ((timesL (((tl s).drop a).take n) (uMs i) : Nat) : Int))))))) = _
          rw [wrapN (z := (n : Int) + (k : Int)) (n := n + k) (by omega) (by omega), wrapN (n := a + n + k) (by omega) (by omega), wrapN (n := i + 1) (by omega) (by omega), wrapN (n := sum + timesL (((tl s).drop a).take n) (uMs i)) (by omega) (by omega)]
          simp only [Option.some.injEq, Sum.inr.injEq, Sum.inl.injEq, Prod.mk.injEq, true_and]
          split <;> omega
        · rw [Bool.not_eq_true] at hc
          rw [hc, cond_false, if_neg (by simp), wrapN (n := i + 1) (by omega) (by omega)])
    (by
      unfold lex_span_l46
      rw [show ((lex_units.length : Nat) : Int) = 7 from rfl]; rfl) 7 0 rfl
  rw [show ((0 : Nat) : Int) = 0 from rfl] at h
  rw [h, findSome_if, ← List.range_eq_range']
  obtain ⟨o, ho⟩ : ∃ o, unitL ((tl s).drop (a + n)) first = o := ⟨_, rfl⟩
  rw [ho]
  unfold unitL at ho
  rw [ho]
  cases o <;> rfl
theorem span_loop {s : ByteArray} (hs : s.size < 4294967296) : ∀ (f a first sum : Nat), a ≤ s.size → first ≤ 7 → 8 ≤ first + f → sum ≤ maxS + 1 →
    loopO (lex_span_l16 s) ((a : Int), (first : Int), (sum : Int)) = some (((a + (spanGo f ((tl s).drop a) first sum).1 : Nat) : Int), (((spanGo f ((tl s).drop a) first sum).2 : Nat) : Int))
  | 0, a, first, sum, _, h1, h2, _ => by omega
  | f + 1, a, first, sum, ha, h1, h2, hsum => by
    have hl := tl_len s
    have hdl := runL_le digN ((tl s).drop a)
    rw [List.length_drop] at hdl
    unfold spanGo
    generalize hD : runL digN ((tl s).drop a) = D at *
    by_cases hd : D = 0
    · rw [if_pos hd]
      refine loopO_done (r := (((a + 0 : Nat) : Int), (sum : Int))) ?_
      unfold lex_span_l16
      refine bind_of (num_dig hs ha) ?_
      rw [hD, hd]; rfl
    rw [if_neg hd, List.drop_drop]
    have hkl := runL_le lowN ((tl s).drop (a + D))
    rw [List.length_drop] at hkl
    have hlp := unit_loop hs (a := a) (first := first) (sum := sum) (n := D) (k := runL lowN ((tl s).drop (a + D))) (by omega) rfl (fun i hi => (runL_in (by rw [hD]; exact hi)).2) hsum
    have hbody : lex_span_l16 s ((a : Int), (first : Int), (sum : Int)) = match unitL ((tl s).drop (a + D)) first with
        | some i => some (.inl (((a + D + runL lowN ((tl s).drop (a + D)) : Nat) : Int), ((i + 1 : Nat) : Int), ((min (sum + timesL (((tl s).drop a).take D) (uMs i)) (maxS + 1) : Nat) : Int)))
        | none => some (.inr ((a : Int), (sum : Int))) := by
      unfold lex_span_l16
      refine bind_of (num_dig hs ha) ?_
      rw [hD, show (((D : Nat) : Int) == 0) = false from by rw [beq_eq_false_iff_ne]; omega, cond_false]
      show Option.bind (lex_run s (IntKind.wrap .i64 ((a : Int) + (D : Int))) _) _ = _
      rw [wrapN (n := a + D) (by omega) (by omega)]
      refine bind_of (lex_run_eq lowN hs (by omega) (fun c hc => by rw [low_eq hc]) rfl) ?_
      refine bind_of hlp ?_
      cases unitL ((tl s).drop (a + D)) first <;> rfl
    cases hu : unitL ((tl s).drop (a + D)) first with
    | none =>
      rw [hu] at hbody
      rw [loopO_done hbody]; rfl
    | some i =>
      rw [hu] at hbody
      have hi := unitL_some hu
      have hr := unitL_run hu
      simp only
      rw [loopO_step hbody, hr, List.drop_drop, span_loop hs f _ _ _ (by omega) (by omega) (by omega) (Nat.min_le_right _ _)]
      simp only [Nat.add_assoc]
theorem lex_span_eq {s : ByteArray} (hs : s.size < 4294967296) : lex_span s = some (((spanL (tl s) : Nat) : Int), (((spanGo 8 (tl s) 0 0).2 : Nat) : Int)) := by
  unfold lex_span
  have h := span_loop hs 8 0 0 0 (Nat.zero_le _) (by omega) (by omega) (Nat.zero_le _)
  rw [List.drop_zero] at h
  refine bind_of h ?_
  rw [Nat.zero_add]; rfl
theorem lex_signs_at {i : Nat} (h : i < 22) : ∃ u : ByteArray, lex_signs[i]? = some u ∧ tl u = signsL.getD i [] := by
  have : ∀ j : Fin 22, (lex_signs[j.val]?).map tl = some (signsL.getD j.val []) := by unfold lex_signs; decide +kernel
  obtain ⟨u, h1, h2⟩ := Option.map_eq_some_iff.1 (this ⟨i, h⟩)
  exact ⟨u, h1, h2⟩
theorem find_getD {α : Type} (d : α) (c : α → Bool) (l : List α) : ((List.range l.length).find? fun i => c (l.getD i d)).map (fun i => l.getD i d) = l.find? c := by
  induction l with
  | nil => rfl
  | cons x l ih =>
    rw [List.length_cons, List.range_succ_eq_map, List.find?_cons, List.find?_cons]
    cases hc : c ((x :: l).getD 0 d) with
    | true => rw [show c x = true from hc]; rfl
    | false =>
      rw [show c x = false from hc]
      simp only [List.find?_map]
      show Option.map _ (Option.map Nat.succ (List.find? (fun i => c (l.getD i d)) (List.range l.length))) = _
      rw [Option.map_map]
      exact ih
theorem lex_one_signs {s : ByteArray} : loopO (lex_one_l89 s) 0 = some (match signL (tl s) with
    | some x => .inr (⟨5, ⟨x.toArray⟩, 0⟩, (x.length : Int))
    | none => .inl ()) := by
  have h := up_find_from (n := 22) (body := lex_one_l89 s)
    (fun i => if (signsL.getD i []).isPrefixOf (tl s) then some ((⟨5, ⟨(signsL.getD i []).toArray⟩, 0⟩, ((signsL.getD i []).length : Int)) : S27 × Int) else none)
    (fun i hi => by
      obtain ⟨u, hu, hu1⟩ := lex_signs_at hi
      unfold lex_one_l89
      rw [show ((lex_signs.length : Nat) : Int) = 22 from rfl, decide_eq_true (by omega), cond_true]
      refine bind_of (a := u) (by rw [ix_nat]; exact hu) ?_
      refine bind_of pref_eq ?_
      rw [hu1]
      cases (signsL.getD i []).isPrefixOf (tl s) with
      | true =>
        rw [cond_true, if_pos rfl, ← hu1]
        rw [show u.size = (tl u).length from (tl_len u).symm]
      | false => rw [cond_false, if_neg (by simp), wrapN (n := i + 1) (by omega) (by omega)])
    (by
      unfold lex_one_l89
      rw [show ((lex_signs.length : Nat) : Int) = 22 from rfl]; rfl) 22 0 rfl
  rw [show ((0 : Nat) : Int) = 0 from rfl] at h
  rw [h, findSome_if, ← List.range_eq_range']
  have := find_getD [] (fun x => x.isPrefixOf (tl s)) signsL
  rw [show signsL.length = 22 from rfl] at this
  unfold signL
  rw [← this]
  generalize (List.range 22).find? (fun i => (signsL.getD i []).isPrefixOf (tl s)) = o
  cases o <;> rfl
/-! ### texts in quotes -/
theorem puint_all : ∀ (a b : Fin 103), hexN a.val = true → hexN b.val = true → strconv_ParseUint_c ⟨#[UInt8.ofNat a.val, UInt8.ofNat b.val]⟩ 16 8 = some (((16 * hexV a.val + hexV b.val : Nat) : Int), ()) := by decide +kernel
theorem hexN_lt {c : Nat} (h : hexN c = true) : c < 103 := by unfold hexN digN at h; simp at h; omega
theorem puint_eq {s : ByteArray} (hs : s.size = 2) (h0 : hexN (gB (tl s) 0) = true) (h1 : hexN (gB (tl s) 1) = true) : strconv_ParseUint s 16 8 = some (((16 * hexV (gB (tl s) 0) + hexV (gB (tl s) 1) : Nat) : Int), ()) := by
  have h := puint_all ⟨_, hexN_lt h0⟩ ⟨_, hexN_lt h1⟩ h0 h1
  have e : s = ⟨#[UInt8.ofNat (gB (tl s) 0), UInt8.ofNat (gB (tl s) 1)]⟩ := by
    apply ba_eq
    have hl := tl_len s
    rw [hs] at hl
    show tl s = _
    rcases hxy : tl s with _ | ⟨x, _ | ⟨y, _ | ⟨z, t⟩⟩⟩
    · rw [hxy] at hl; simp at hl
    · rw [hxy] at hl; simp at hl
    · simp [gB, UInt8.ofNat_toNat]
    · rw [hxy] at hl; simp at hl
  have h2 := strconv_ParseUint_ev ⟨#[UInt8.ofNat (gB (tl s) 0), UInt8.ofNat (gB (tl s) 1)]⟩ 16 8 _ h
  rw [← e] at h2
  exact h2
theorem hexV_lt {c : Nat} (h : hexN c = true) : hexV c < 16 := by
  unfold hexN digN at h; unfold hexV; simp at h
  split <;> (try split) <;> omega
theorem hexV_low {c : Nat} (h : hexN c = true) : hexV c < 8 ↔ c ≤ 55 := by
  unfold hexN digN at h; unfold hexV; simp at h
  split <;> (try split) <;> omega
theorem lex_escape_eq {s : ByteArray} (hs : s.size < 4294967296) : lex_escape s = some (match escL (tl s) with | some (x, k) => ((x.toNat : Int), (k : Int)) | none => (0, 0)) := by
  have hl := tl_len s
  unfold lex_escape
  rw [nil_size]
  by_cases h0 : s.size = 0
  · rw [decide_eq_true h0, cond_true]
    have : escL (tl s) = none := by
      have hg : ∀ i, gB (tl s) i = 0 := fun i => gB_out (by omega)
      unfold escL; simp [hg]
    rw [this]
  rw [decide_eq_false h0, cond_false]
  refine bind_of (show bx s 0 = some ((gB (tl s) 0 : Nat) : Int) from bx_tl (i := 0) (by omega)) ?_
  generalize hc : gB (tl s) 0 = c
  unfold escL
  rw [hc]
  have e : ∀ k : Nat, (((c : Nat) : Int) == (k : Int)) = decide (c = k) := fun k => by rw [Bool.eq_iff_iff, beq_iff_eq, decide_eq_true_eq]; omega
  rw [show (((c : Nat) : Int) == 110) = decide (c = 110) from e 110, show (((c : Nat) : Int) == 92) = decide (c = 92) from e 92, show (((c : Nat) : Int) == 34) = decide (c = 34) from e 34, show (((c : Nat) : Int) == 39) = decide (c = 39) from e 39,
    show (((c : Nat) : Int) == 116) = decide (c = 116) from e 116, show (((c : Nat) : Int) == 114) = decide (c = 114) from e 114, show (((c : Nat) : Int) == 120) = decide (c = 120) from e 120]
  by_cases c1 : c = 110
  · subst c1; rfl
  by_cases c2 : c = 92 ∨ c = 34 ∨ c = 39
  · rw [if_neg c1, if_pos c2]
    have hx : (((((tl s).getD 0 0).toNat : Nat) : Int)) = (c : Int) := by rw [show ((tl s).getD 0 0).toNat = c from hc]
    show _ = some (((((tl s).getD 0 0).toNat : Nat) : Int), ((1 : Nat) : Int))
    rw [hx]
    rcases c2 with rfl | rfl | rfl <;> rfl
  rw [not_or, not_or] at c2
  obtain ⟨c3, c4, c5⟩ := c2
  by_cases c6 : c = 116
  · subst c6; rfl
  by_cases c7 : c = 114
  · subst c7; rfl
  rw [if_neg c1, if_neg (by omega), if_neg c6, if_neg c7]
  simp only [c1, c3, c4, c5, c6, c7, decide_false, cond_false, Option.bind_some]
  by_cases c8 : c = 120
  · simp only [c8, decide_true, cond_true, true_and]
    by_cases hH : hexN (gB (tl s) 1) = true ∧ hexN (gB (tl s) 2) = true
    · have h2 : 2 < s.size := by
        have : 0 < gB (tl s) 2 := by
          have := hH.2; unfold hexN digN at this; simp at this; omega
        have := gB_in this; omega
      rw [decide_eq_true (by omega), cond_true, show bx s 1 = some ((gB (tl s) 1 : Nat) : Int) from bx_tl (i := 1) (by omega), show bx s 2 = some ((gB (tl s) 2 : Nat) : Int) from bx_tl (i := 2) (by omega)]
      simp only [Option.bind_some, hex_eq (gB_lt _ _), hH.1, hH.2, cond_true]
      rw [show sx s 1 3 = some (s.extract 1 3) from sx_tl (a := 1) (b := 3) (by omega) (by omega)]
      have ht : tl (s.extract 1 3) = ((tl s).drop 1).take 2 := tl_extract s 1 3
      have hg0 : gB (tl (s.extract 1 3)) 0 = gB (tl s) 1 := by
        rw [ht]; unfold gB; rw [List.getD_eq_getElem?_getD, List.getElem?_take, if_pos (by omega), List.getElem?_drop, ← List.getD_eq_getElem?_getD]
      have hg1 : gB (tl (s.extract 1 3)) 1 = gB (tl s) 2 := by
        rw [ht]; unfold gB; rw [List.getD_eq_getElem?_getD, List.getElem?_take, if_pos (by omega), List.getElem?_drop, ← List.getD_eq_getElem?_getD]
      have hp := puint_eq (s := s.extract 1 3) (by rw [← tl_len, ht, List.length_take, List.length_drop]; omega) (by rw [hg0]; exact hH.1) (by rw [hg1]; exact hH.2)
      rw [hg0, hg1] at hp
      rw [Option.bind_some, hp, Option.bind_some]
      have v1 := hexV_lt hH.1
      have v2 := hexV_lt hH.2
      have v3 := hexV_low hH.1
      by_cases h7 : gB (tl s) 1 ≤ 55
      · have := v3.2 h7
        rw [if_pos ⟨trivial, trivial, h7⟩]
        simp only
        rw [decide_eq_true (by omega), cond_true, wrapU8 (by omega) (by omega)]
        simp only [Option.bind_some]
        rw [UInt8.toNat_ofNat', Nat.mod_eq_of_lt (by omega)]
        rfl
      · have : ¬ hexV (gB (tl s) 1) < 8 := fun h => h7 (v3.1 h)
        rw [if_neg (fun h => h7 h.2.2)]
        simp only
        rw [decide_eq_false (by omega), cond_false]
        rfl
    · rw [if_neg (fun h => hH ⟨h.1, h.2.1⟩)]
      have : (bif decide ((s.size : Int) > 2) then Option.bind (bx s 1) fun c39 => bif lex_hex c39 then Option.bind (bx s 2) fun c42 => some (lex_hex c42) else some false else some false) = some false := by
        by_cases h2 : 2 < s.size
        · rw [decide_eq_true (by omega), cond_true, show bx s 1 = some ((gB (tl s) 1 : Nat) : Int) from bx_tl (i := 1) (by omega), show bx s 2 = some ((gB (tl s) 2 : Nat) : Int) from bx_tl (i := 2) (by omega)]
          simp only [Option.bind_some, hex_eq (gB_lt _ _)]
          cases ha : hexN (gB (tl s) 1) with
          | false => rfl
          | true =>
            rw [cond_true]
            cases hb : hexN (gB (tl s) 2) with
            | false => rfl
            | true => exact absurd ⟨ha, hb⟩ hH
        · rw [decide_eq_false (by omega), cond_false]
      rw [this]; rfl
  · simp only [c8, decide_false, cond_false, Option.bind_some, false_and, if_false]
end Go.Proofs.YtlhpclfkoblnkaaDoor

/- Plain laws, base: words of bits; numbers in few bytes. -/
set_option linter.unusedVariables false
namespace Go.GB
theorem shr_nat (k : IntKind) (a n : Nat) (hn : n ≤ k.bits) : shr k (a : Int) (n : Int) = ((a / 2 ^ n : Nat) : Int) := by
  unfold shr
  rw [Int.toNat_natCast, Nat.min_eq_left hn, Int.fdiv_eq_ediv_of_nonneg _ (by exact Int.pow_nonneg (by omega))]
  norm_cast
theorem app_eq {α : Type} {xs ys : List α} (h : xs.length + ys.length ≤ 2147483648) : app xs ys = some (xs ++ ys) := by unfold app maxLen'; rw [if_pos (by simpa using h)]
theorem sb_eq {s : ByteArray} (h : s.size ≤ 2147483648) : sb s = some (bytesOf s) := by unfold sb maxLen'; rw [if_pos h]
theorem ofBytes_toList (l : List Int) : (ofBytes l).data.toList = l.map (fun n => UInt8.ofNat n.toNat) := by
  unfold ofBytes
  have key : ∀ (l : List Int) (r : ByteArray), (l.foldl (fun r n => r.push (UInt8.ofNat n.toNat)) r).data.toList = r.data.toList ++ l.map (fun n => UInt8.ofNat n.toNat) := by
    intro l
    induction l with
    | nil => intro r; simp
    | cons x l ih => intro r; rw [List.foldl_cons, ih]; simp [ByteArray.push]
  rw [key]; simp
end Go.GB

/- Plain laws: the program's texts in quotes, tokens. -/
set_option linter.unusedVariables false
set_option maxRecDepth 100000
namespace Go.GB
open Go.Lib
def bi (a : List UInt8) : List Int := a.map fun c => ((c.toNat : Nat) : Int)
theorem bi_app (a b : List UInt8) : bi (a ++ b) = bi a ++ bi b := by unfold bi; rw [List.map_append]
theorem bi_len (a : List UInt8) : (bi a).length = a.length := by unfold bi; rw [List.length_map]
theorem bi_bytes (s : ByteArray) : bytesOf s = bi (tl s) := rfl
theorem strO_bi (a : List UInt8) : strO (bi a) = some ⟨a.toArray⟩ := by
  unfold strO
  rw [if_pos (by
    intro x hx
    unfold bi at hx
    obtain ⟨c, _, rfl⟩ := List.mem_map.1 hx
    have := c.toNat_lt
    omega)]
  congr 2
  unfold bi
  rw [List.map_map]
  congr 1
  conv => rhs; rw [← List.map_id a]
  refine List.map_congr_left fun c _ => ?_
  show UInt8.ofNat (((c.toNat : Nat) : Int)).toNat = c
  rw [Int.toNat_natCast, UInt8.ofNat_toNat]
theorem or192 : ∀ x : Fin 32, bitOr .u8 192 ((x.val : Nat) : Int) = ((192 + x.val : Nat) : Int) := by decide +kernel
theorem or224 : ∀ x : Fin 16, bitOr .u8 224 ((x.val : Nat) : Int) = ((224 + x.val : Nat) : Int) := by decide +kernel
theorem or240 : ∀ x : Fin 8, bitOr .u8 240 ((x.val : Nat) : Int) = ((240 + x.val : Nat) : Int) := by decide +kernel
theorem or128x : ∀ x : Fin 64, bitOr .u8 128 ((x.val : Nat) : Int) = ((128 + x.val : Nat) : Int) := by decide +kernel
theorem wrapU32 {x : Int} (h : 0 ≤ x) (h' : x < 4294967296) : IntKind.wrap .u32 x = x := by
  unfold IntKind.wrap
  simp [IntKind.bits, IntKind.signed]
  omega
theorem wrapI32 {x : Int} (h : -2147483648 ≤ x) (h' : x < 2147483648) : IntKind.wrap .i32 x = x := by
  unfold IntKind.wrap
  simp [IntKind.bits, IntKind.signed]
  omega
theorem cont_byte (c : Nat) : bitOr .u8 128 (bitAnd .u8 (IntKind.wrap .u8 ((c : Nat) : Int)) 63) = ((128 + c % 64 : Nat) : Int) := by
  rw [wrapU8_eq, show ((c : Nat) : Int) % 256 = ((c % 256 : Nat) : Int) from by omega]
  have h1 := and63 ⟨c % 256, by omega⟩
  have h2 := or128x ⟨c % 256 % 64, by omega⟩
  simp only at h1 h2
  rw [h1, h2]
  congr 1; omega
theorem decodeGo_tl (s : ByteArray) (h : 0 < s.size) : decodeGo s = decodeL (tl s) := by
  unfold decodeGo decodeL
  rw [if_neg (by omega)]
end Go.GB
namespace Go.Proofs.YtlhpclfkoblnkaaDoor
open Go.GB Go.Lib
theorem appendRune_eq {l a : List UInt8} (hl : l ≠ []) (hv : ¬ ((decodeL l).1 = 65533 ∧ (decodeL l).2 = 1)) (hb : a.length + 4 ≤ 2147483648) :
    utf8_AppendRune_f71 (bi a) (((decodeL l).1 : Nat) : Int) = some (bi (a ++ l.take (decodeL l).2)) := by
  have hle := decodeL_le l hl
  have k0 := (l.getD 0 0).toNat_lt
  have k1 := (l.getD 1 0).toNat_lt
  have k2 := (l.getD 2 0).toNat_lt
  have k3 := (l.getD 3 0).toNat_lt
  have shr' : ∀ (c n : Nat), n ≤ 32 → shr .i32 (c : Int) (n : Int) = ((c / 2 ^ n : Nat) : Int) := fun c n h => shr_nat .i32 c n h
  unfold utf8_AppendRune_f71 utf8_appendRuneNonASCII_f79
  rw [decodeL_N] at hv hle ⊢
  rcases decodeN_shape l.length (l.getD 0 0).toNat (l.getD 1 0).toNat (l.getD 2 0).toNat (l.getD 3 0).toNat with ⟨c, e⟩ | ⟨c1, c2, c3, cv, e⟩ | ⟨c1, c2, c3, c4, cv, cs, e⟩ | ⟨c1, c2, c3, c4, c5, cv, cw, e⟩ | e
  · rw [e] at hle ⊢
    simp only
    rw [wrapU32 (by omega) (by omega), decide_eq_true (by omega), cond_true, app_eq (by rw [bi_len]; simp; omega), Option.bind_some, wrapU8 (by omega) (by omega), bi_app]
    rw [takeA l (List.length_pos_iff.2 hl)]; rfl
  · rw [e] at hle ⊢
    simp only
    generalize hC : (l.getD 0 0).toNat % 32 * 64 + (l.getD 1 0).toNat % 64 = C at *
    rw [wrapU32 (by omega) (by omega), decide_eq_false (by omega), cond_false, decide_eq_true (by omega), cond_true, show shr .i32 (C : Int) 6 = ((C / 64 : Nat) : Int) from shr' C 6 (by omega), wrapU8 (by omega) (by omega), cont_byte]
    have h1 := or192 ⟨C / 64, by omega⟩
    simp only at h1
    rw [h1, app_eq (by rw [bi_len]; simp; omega), Option.bind_some, Option.bind_some, bi_app, takeB l c2]
    unfold bi
    simp only [List.map_cons, List.map_nil]
    rw [show 192 + C / 64 = (l.getD 0 0).toNat from by omega, show 128 + C % 64 = (l.getD 1 0).toNat from by omega]
  · rw [e] at hle ⊢
    simp only
    generalize hC : (l.getD 0 0).toNat % 16 * 4096 + (l.getD 1 0).toNat % 64 * 64 + (l.getD 2 0).toNat % 64 = C at *
    rw [wrapU32 (by omega) (by omega), decide_eq_false (show ¬ ((C : Int) ≤ 127) by omega), cond_false, decide_eq_false (show ¬ ((C : Int) ≤ 2047) by omega), cond_false]
    have hj : (bif decide ((C : Int) < 55296) then some (decide ((C : Int) < 55296)) else some (decide ((57343 : Int) < (C : Int)) && decide ((C : Int) ≤ 65535))) = some true := by
      by_cases h5 : C < 55296
      · rw [decide_eq_true (show (C : Int) < 55296 by omega)]; rfl
      · rw [decide_eq_false (show ¬ ((C : Int) < 55296) by omega), decide_eq_true (show (57343 : Int) < (C : Int) by omega), decide_eq_true (show (C : Int) ≤ 65535 by omega)]; rfl
    rw [hj, Option.bind_some, cond_true, show shr .i32 (C : Int) 12 = ((C / 4096 : Nat) : Int) from shr' C 12 (by omega), show shr .i32 (C : Int) 6 = ((C / 64 : Nat) : Int) from shr' C 6 (by omega), wrapU8 (x := ((C / 4096 : Nat) : Int)) (by omega) (by omega), cont_byte, cont_byte]
    have h1 := or224 ⟨C / 4096, by omega⟩
    simp only at h1
    rw [h1, app_eq (by rw [bi_len]; simp; omega), Option.bind_some, Option.bind_some, bi_app, takeC l c2]
    unfold bi
    simp only [List.map_cons, List.map_nil]
    rw [show 224 + C / 4096 = (l.getD 0 0).toNat from by omega, show 128 + C / 64 % 64 = (l.getD 1 0).toNat from by omega, show 128 + C % 64 = (l.getD 2 0).toNat from by omega]
  · rw [e] at hle ⊢
    simp only
    generalize hC : (l.getD 0 0).toNat % 8 * 262144 + (l.getD 1 0).toNat % 64 * 4096 + (l.getD 2 0).toNat % 64 * 64 + (l.getD 3 0).toNat % 64 = C at *
    rw [wrapU32 (by omega) (by omega), decide_eq_false (show ¬ ((C : Int) ≤ 127) by omega), cond_false, decide_eq_false (show ¬ ((C : Int) ≤ 2047) by omega), cond_false]
    have hj : (bif decide ((C : Int) < 55296) then some (decide ((C : Int) < 55296)) else some (decide ((57343 : Int) < (C : Int)) && decide ((C : Int) ≤ 65535))) = some false := by
      rw [decide_eq_false (show ¬ ((C : Int) < 55296) by omega), decide_eq_true (show (57343 : Int) < (C : Int) by omega), decide_eq_false (show ¬ ((C : Int) ≤ 65535) by omega)]; rfl
    rw [hj, Option.bind_some, cond_false, decide_eq_true (show (C : Int) > 65535 by omega), decide_eq_true (show (C : Int) ≤ 1114111 by omega)]
    rw [show (true && true) = true from rfl, cond_true, show shr .i32 (C : Int) 18 = ((C / 262144 : Nat) : Int) from shr' C 18 (by omega), show shr .i32 (C : Int) 12 = ((C / 4096 : Nat) : Int) from shr' C 12 (by omega), show shr .i32 (C : Int) 6 = ((C / 64 : Nat) : Int) from shr' C 6 (by omega), wrapU8 (x := ((C / 262144 : Nat) : Int)) (by omega) (by omega), cont_byte, cont_byte, cont_byte]
    have h1 := or240 ⟨C / 262144, by omega⟩
    simp only at h1
    rw [h1, app_eq (by rw [bi_len]; simp; omega), Option.bind_some, Option.bind_some, bi_app, takeD l c2]
    unfold bi
    simp only [List.map_cons, List.map_nil]
    rw [show 240 + C / 262144 = (l.getD 0 0).toNat from by omega, show 128 + C / 4096 % 64 = (l.getD 1 0).toNat from by omega, show 128 + C / 64 % 64 = (l.getD 2 0).toNat from by omega, show 128 + C % 64 = (l.getD 3 0).toNat from by omega]
  · rw [e] at hv; exact absurd ⟨rfl, rfl⟩ hv
def qfin : (Unit) ⊕ (ByteArray × Int) → ByteArray × Int | .inl _ => (⟨#[]⟩, 0) | .inr v => v
theorem quoted_loop {s : ByteArray} {q : Nat} (hq : q < 128) (hs : s.size < 1073741824) : ∀ (m at_ : Nat) (a : List UInt8), s.size - at_ = m → at_ ≤ s.size → a.length ≤ at_ →
    (loopO (lex_quoted_l32 s (q : Int)) ((), bi a, (at_ : Int))).map qfin = some (match textP q ((tl s).drop at_) with | some (o, n) => (⟨(a ++ o).toArray⟩, ((at_ + n : Nat) : Int)) | none => (⟨#[]⟩, 0)) := by
  intro m
  induction m using Nat.strongRecOn with
  | _ m ih =>
    intro at_ a hm hle hal
    have hl := tl_len s
    by_cases hlt : at_ < s.size
    · have hne : (tl s).drop at_ ≠ [] := by intro h; have := congrArg List.length h; rw [List.length_drop, List.length_nil] at this; omega
      have hw := decodeL_width ((tl s).drop at_)
      have hwl := decodeL_le _ hne
      rw [List.length_drop] at hwl
      have hsx : sx s (at_ : Int) (s.size : Int) = some (s.extract at_ s.size) := sx_tl (by omega) (Nat.le_refl _)
      have htl : tl (s.extract at_ s.size) = (tl s).drop at_ := by rw [tl_extract, List.take_of_length_le (by rw [List.length_drop]; omega)]
      have hdec : utf8_DecodeRuneInString (s.extract at_ s.size) = some ((((decodeL ((tl s).drop at_)).1 : Nat) : Int), (((decodeL ((tl s).drop at_)).2 : Nat) : Int)) := by
        unfold utf8_DecodeRuneInString
        rw [decodeGo_tl _ (by rw [← tl_len, htl, List.length_drop]; omega), htl]
      have hrd := decodeL_rune ((tl s).drop at_)
      rw [textP, dif_neg hne]
      have e1 : ∀ c k : Nat, (((c : Nat) : Int) == (k : Int)) = decide (c = k) := fun c k => by rw [Bool.eq_iff_iff, beq_iff_eq, decide_eq_true_eq]; omega
      -- the body
      have hbody : lex_quoted_l32 s (q : Int) ((), bi a, (at_ : Int)) =
          if (decodeL ((tl s).drop at_)).1 = q then some (.inr (.inr (⟨a.toArray⟩, ((at_ + 1 : Nat) : Int))))
          else if ((decodeL ((tl s).drop at_)).1 = 65533 ∧ (decodeL ((tl s).drop at_)).2 = 1) ∨ (decodeL ((tl s).drop at_)).1 = 10 then some (.inr (.inr (⟨#[]⟩, 0)))
          else if (decodeL ((tl s).drop at_)).1 = 92 then (match escL ((tl s).drop (at_ + 1)) with
            | none => some (.inr (.inr (⟨#[]⟩, 0)))
            | some (x, k) => some (.inl ((), bi (a ++ [x]), ((at_ + (1 + k) : Nat) : Int))))
          else some (.inl ((), bi (a ++ ((tl s).drop at_).take (decodeL ((tl s).drop at_)).2), ((at_ + (decodeL ((tl s).drop at_)).2 : Nat) : Int))) := by
        unfold lex_quoted_l32
        rw [show decide ((((), bi a, (at_ : Int)) : Unit × List Int × Int).2.2 < (s.size : Int)) = true from decide_eq_true (by show (at_ : Int) < (s.size : Int); omega), cond_true]
        refine bind_of hsx ?_
        refine bind_of hdec ?_
        generalize hD : decodeL ((tl s).drop at_) = D at *
        obtain ⟨d1, d2⟩ := D
        simp only at hrd hw hwl ⊢
        rw [wrapI32 (by omega) (by omega), e1]
        by_cases h1 : d1 = q
        · rw [decide_eq_true h1, cond_true, if_pos h1]
          refine bind_of (show strings_Builder_String _ = some _ from strO_bi a) ?_
          rw [wrapN (n := at_ + 1) (by omega) (by omega)]
        rw [decide_eq_false h1, cond_false, if_neg h1]
        have hj : (bif ((((d1 : Nat) : Int) == 65533) && (((d2 : Nat) : Int) == 1)) then some ((((d1 : Nat) : Int) == 65533) && (((d2 : Nat) : Int) == 1)) else some (((d1 : Nat) : Int) == 10)) = some (decide ((d1 = 65533 ∧ d2 = 1) ∨ d1 = 10)) := by
          rw [show (((d1 : Nat) : Int) == 65533) = decide (d1 = 65533) from e1 d1 65533, show (((d2 : Nat) : Int) == 1) = decide (d2 = 1) from e1 d2 1, show (((d1 : Nat) : Int) == 10) = decide (d1 = 10) from e1 d1 10]
          by_cases k1 : d1 = 65533 <;> by_cases k2 : d2 = 1 <;> by_cases k3 : d1 = 10 <;> simp [k1, k2, k3]
        refine bind_of hj ?_
        by_cases h2 : (d1 = 65533 ∧ d2 = 1) ∨ d1 = 10
        · rw [decide_eq_true h2, cond_true, if_pos h2]
        rw [decide_eq_false h2, cond_false, if_neg h2]
        rw [show (((d1 : Nat) : Int) == 92) = decide (d1 = 92) from e1 d1 92]
        by_cases h3 : d1 = 92
        · rw [decide_eq_true h3, cond_true, if_pos h3, wrapN (z := (at_ : Int) + 1) (n := at_ + 1) (by omega) (by omega)]
          have hsx2 : sx s ((at_ + 1 : Nat) : Int) (s.size : Int) = some (s.extract (at_ + 1) s.size) := sx_tl (by omega) (Nat.le_refl _)
          have htl2 : tl (s.extract (at_ + 1) s.size) = (tl s).drop (at_ + 1) := by rw [tl_extract, List.take_of_length_le (by rw [List.length_drop]; omega)]
          have hsz2 : (s.extract (at_ + 1) s.size).size < 4294967296 := by rw [← tl_len, htl2, List.length_drop]; omega
          have hesc := lex_escape_eq hsz2
          rw [htl2] at hesc
          rw [hsx2, Option.bind_some, hesc, Option.bind_some]
          cases hk : escL ((tl s).drop (at_ + 1)) with
          | none => rfl
          | some xk =>
            obtain ⟨x, k⟩ := xk
            have hkl := escL_low hk
            rw [List.length_drop] at hkl
            simp only
            rw [show (((k : Nat) : Int) == 0) = decide (k = 0) from e1 k 0, decide_eq_false (by omega), cond_false]
            have hwb : strings_Builder_WriteByte (⟨bi a⟩ : S50) ((x.toNat : Nat) : Int) = some ((), ⟨bi (a ++ [x])⟩) := by
              unfold strings_Builder_WriteByte strings_Builder_copyCheck
              rw [app_eq (by rw [bi_len]; simp; omega), Option.bind_some, bi_app]; rfl
            rw [hwb, Option.bind_some, Option.bind_some]
            simp only
            rw [wrapN (z := 1 + ((k : Nat) : Int)) (n := 1 + k) (by omega) (by omega), wrapN (n := at_ + (1 + k)) (by omega) (by omega)]
        · rw [decide_eq_false h3, cond_false, if_neg h3]
          have hv : ¬ (d1 = 65533 ∧ d2 = 1) := fun h => h2 (.inl h)
          have har := appendRune_eq (l := (tl s).drop at_) (a := a) hne (by rw [hD]; exact hv) (by omega)
          rw [hD] at har
          have hwr : strings_Builder_WriteRune (⟨bi a⟩ : S50) ((d1 : Nat) : Int) = some (IntKind.wrap .i64 (((bi (a ++ ((tl s).drop at_).take d2)).length : Int) - ((bi a).length : Int)), (), ⟨bi (a ++ ((tl s).drop at_).take d2)⟩) := by
            unfold strings_Builder_WriteRune strings_Builder_copyCheck
            rw [har, Option.bind_some]
          rw [hwr, Option.bind_some, Option.bind_some]
          simp only
          rw [wrapN (n := at_ + d2) (by omega) (by omega)]
      have step : ∀ (a' : List UInt8) (j : Nat), lex_quoted_l32 s (q : Int) ((), bi a, (at_ : Int)) = some (.inl ((), bi a', ((j : Nat) : Int))) → at_ < j → j ≤ s.size → a'.length ≤ j →
          (loopO (lex_quoted_l32 s (q : Int)) ((), bi a, (at_ : Int))).map qfin = some (match textP q ((tl s).drop j) with | some (o, n) => (⟨(a' ++ o).toArray⟩, ((j + n : Nat) : Int)) | none => (⟨#[]⟩, 0)) := fun a' j h1 h2 h3 h4 => by
        rw [loopO_step h1]; exact ih (s.size - j) (by omega) j a' rfl h3 h4
      by_cases h1 : (decodeL ((tl s).drop at_)).1 = q
      · rw [if_pos h1] at hbody ⊢
        rw [loopO_done hbody]
        simp [qfin]
      rw [if_neg h1] at hbody ⊢
      by_cases h2 : ((decodeL ((tl s).drop at_)).1 = 65533 ∧ (decodeL ((tl s).drop at_)).2 = 1) ∨ (decodeL ((tl s).drop at_)).1 = 10
      · rw [if_pos h2] at hbody ⊢
        rw [loopO_done hbody]; rfl
      rw [if_neg h2] at hbody ⊢
      by_cases h3 : (decodeL ((tl s).drop at_)).1 = 92
      · rw [if_pos h3] at hbody ⊢
        rw [List.drop_drop]
        cases hk : escL ((tl s).drop (at_ + 1)) with
        | none =>
          rw [hk] at hbody
          rw [loopO_done hbody]; rfl
        | some xk =>
          obtain ⟨x, k⟩ := xk
          have hkl := escL_low hk
          rw [List.length_drop] at hkl
          rw [hk] at hbody
          simp only at hbody ⊢
          rw [step _ _ hbody (by omega) (by omega) (by simp; omega), List.drop_drop]
          cases textP q ((tl s).drop (at_ + (1 + k))) with
          | none => rfl
          | some on => simp [Nat.add_assoc, Nat.add_comm, Nat.add_left_comm]
      · rw [if_neg h3] at hbody ⊢
        rw [step _ _ hbody (by omega) (by omega) (by rw [List.length_append, List.length_take]; omega), List.drop_drop]
        cases textP q ((tl s).drop (at_ + (decodeL ((tl s).drop at_)).2)) with
        | none => rfl
        | some on => simp [Nat.add_assoc, Nat.add_comm, Nat.add_left_comm]
    · have he : lex_quoted_l32 s (q : Int) ((), bi a, (at_ : Int)) = some (.inr (.inl ())) := by
        unfold lex_quoted_l32
        rw [show decide ((((), bi a, (at_ : Int)) : Unit × List Int × Int).2.2 < (s.size : Int)) = false from decide_eq_false (by show ¬ ((at_ : Int) < (s.size : Int)); omega)]; rfl
      rw [loopO_done he, List.drop_eq_nil_of_le (by omega), textP]
      simp [qfin]
theorem lex_quoted_eq {s : ByteArray} (hs : s.size < 1073741824) (h0 : 0 < s.size) (hq : gB (tl s) 0 < 128) :
    lex_quoted s = some (match textP (gB (tl s) 0) ((tl s).drop 1) with | some (o, n) => (⟨o.toArray⟩, ((n + 1 : Nat) : Int)) | none => (⟨#[]⟩, 0)) := by
  unfold lex_quoted
  refine bind_of (show bx s 0 = some ((gB (tl s) 0 : Nat) : Int) from bx_tl (i := 0) h0) ?_
  have h := quoted_loop (s := s) hq hs (s.size - 1) 1 [] rfl (by omega) (by simp)
  obtain ⟨r, hr, hf⟩ := Option.map_eq_some_iff.1 h
  refine bind_of (show loopO (lex_quoted_l32 s ((gB (tl s) 0 : Nat) : Int)) ((), [], 1) = some r from hr) ?_
  refine Eq.trans (b := some (qfin r)) (by cases r <;> rfl) ?_
  rw [hf]
  cases textP (gB (tl s) 0) ((tl s).drop 1) with
  | none => rfl
  | some on => simp [Nat.add_comm]
/-! ### blanks and remarks -/
end Go.Proofs.YtlhpclfkoblnkaaDoor

/- Plain laws: the program's tokens are the lists'. -/
set_option linter.unusedVariables false
set_option maxRecDepth 100000
namespace Go.Proofs.YtlhpclfkoblnkaaDoor
open Go.GB Go.Lib
def oneOk (l : List UInt8) (r : S27 × Int) : Prop := match oneL l with
  | none => r.2 = 0
  | some (k, t, n) => r = (⟨(k : Int), ⟨t.toArray⟩, 0⟩, (n : Int))
theorem extract_ba {s : ByteArray} {n : Nat} (h : n ≤ s.size) : s.extract 0 n = ⟨((tl s).take n).toArray⟩ := by
  apply ba_eq
  show tl (s.extract 0 n) = (tl s).take n
  rw [tl_extract, List.drop_zero, Nat.sub_zero]
theorem ident_if {s : ByteArray} {n : Nat} : (bif decide ((n : Int) < (s.size : Int)) then Option.bind (bx s (n : Int)) fun c36 => bif lex_letter c36 then some true else Option.bind (bx s (n : Int)) fun c39 => bif lex_digit c39 then some true else Option.bind (bx s (n : Int)) fun c42 => some (c42 == 46) else some false) = some (identN (gB (tl s) n)) := by
  refine at_if identN rfl (fun hi => ?_)
  have hb := gB_lt (tl s) n
  rw [let_eq hb, bx_tl hi]
  simp only [Option.bind_some, dig_eq hb]
  unfold identN
  have e1 : (((gB (tl s) n : Nat) : Int) == 46) = decide (gB (tl s) n = 46) := by rw [Bool.eq_iff_iff, beq_iff_eq, decide_eq_true_eq]; omega
  rw [e1]
  cases letN (gB (tl s) n) <;> cases digN (gB (tl s) n) <;> rfl
theorem lex_one_eq {s : ByteArray} (hs : s.size < 536870912) (h0 : 0 < s.size) : ∃ r, lex_one s = some r ∧ oneOk (tl s) r := by
  have hl := tl_len s
  have hb := gB_lt (tl s) 0
  have hne : tl s ≠ [] := by intro h; rw [h] at hl; simp at hl; omega
  unfold lex_one oneOk oneL
  rw [show bx s 0 = some ((gB (tl s) 0 : Nat) : Int) from bx_tl (i := 0) h0, Option.bind_some, let_eq hb]
  by_cases c1 : letN (gB (tl s) 0) = true
  · rw [c1, cond_true, if_pos rfl]
    have hr := lex_run_eq (s := s) (a := 0) (fun c => letN c || digN c) (f := fun x0 => some (lex_one_1 x0)) (by omega) (by omega) (fun c hc => by rw [ident_eq hc]) rfl
    rw [List.drop_zero] at hr
    rw [show lex_run s 0 (fun x0 => some (lex_one_1 x0)) = _ from hr, Option.bind_some]
    have hle := runL_le (fun c => letN c || digN c) (tl s)
    rw [show sx s 0 _ = _ from sx_tl (a := 0) (b := runL (fun c => letN c || digN c) (tl s)) (by omega) (by omega), Option.bind_some, extract_ba (by omega)]
    exact ⟨_, rfl, rfl⟩
  rw [Bool.not_eq_true] at c1
  rw [c1, cond_false, if_neg (by simp), dig_eq hb]
  have e46 : (((gB (tl s) 0 : Nat) : Int) == 46) = decide (gB (tl s) 0 = 46) := by rw [Bool.eq_iff_iff, beq_iff_eq, decide_eq_true_eq]; omega
  rw [e46]
  by_cases c2 : digN (gB (tl s) 0) = true ∨ gB (tl s) 0 = 46
  · rw [show (digN (gB (tl s) 0) || decide (gB (tl s) 0 = 46)) = true from by rcases c2 with h | h <;> simp [h], cond_true, if_pos c2, lex_number_eq (by omega), Option.bind_some, lex_span_eq (by omega), Option.bind_some]
    have hnl := numL_le (tl s)
    have hsl := spanL_le (tl s)
    unfold numTok
    generalize spanL (tl s) = m at *
    generalize numL (tl s) = n at *
    have hj : (bif decide (((m : Nat) : Int) > ((n : Nat) : Int)) then some ((3 : Int), ((m : Nat) : Int)) else some (2, ((n : Nat) : Int))) = some ((((if m > n then 3 else 2) : Nat) : Int), (((if m > n then m else n) : Nat) : Int)) := by
      by_cases h : m > n
      · rw [decide_eq_true (by omega), if_pos h, if_pos h]; rfl
      · rw [decide_eq_false (by omega), if_neg h, if_neg h]; rfl
    rw [hj, Option.bind_some]
    have hel : (if m > n then m else n) ≤ s.size := by split <;> omega
    generalize (if m > n then m else n) = e at *
    generalize (if m > n then 3 else 2) = k at *
    simp only
    rw [ident_if, Option.bind_some]
    by_cases hc : identN (gB (tl s) e) = true
    · rw [hc, cond_true, if_pos (Or.inr rfl)]
      exact ⟨_, rfl, rfl⟩
    · rw [Bool.not_eq_true] at hc
      rw [hc, cond_false, show sx s 0 _ = _ from sx_tl (a := 0) (b := e) (by omega) hel, Option.bind_some, extract_ba hel]
      by_cases he : e = 0
      · rw [if_pos (Or.inl he)]; exact ⟨_, rfl, by subst he; rfl⟩
      · rw [if_neg (by simp [he])]; exact ⟨_, rfl, rfl⟩
  have c2a : (digN (gB (tl s) 0) || decide (gB (tl s) 0 = 46)) = false := by
    rw [not_or] at c2; simp [c2.1, c2.2]
  rw [c2a, cond_false, if_neg c2]
  have e34 : (((gB (tl s) 0 : Nat) : Int) == 34) = decide (gB (tl s) 0 = 34) := by rw [Bool.eq_iff_iff, beq_iff_eq, decide_eq_true_eq]; omega
  have e39 : (((gB (tl s) 0 : Nat) : Int) == 39) = decide (gB (tl s) 0 = 39) := by rw [Bool.eq_iff_iff, beq_iff_eq, decide_eq_true_eq]; omega
  rw [e34, e39]
  by_cases c3 : gB (tl s) 0 = 34 ∨ gB (tl s) 0 = 39
  · rw [show (decide (gB (tl s) 0 = 34) || decide (gB (tl s) 0 = 39)) = true from by rcases c3 with h | h <;> simp [h], cond_true, if_pos c3, lex_quoted_eq (by omega) h0 (by omega), Option.bind_some]
    cases textP (gB (tl s) 0) ((tl s).drop 1) with
    | none => exact ⟨_, rfl, rfl⟩
    | some on => exact ⟨_, rfl, rfl⟩
  · have c3a : (decide (gB (tl s) 0 = 34) || decide (gB (tl s) 0 = 39)) = false := by
      rw [not_or] at c3; simp [c3.1, c3.2]
    rw [c3a, cond_false, if_neg c3, lex_one_signs, Option.bind_some]
    cases signL (tl s) with
    | none => exact ⟨_, rfl, rfl⟩
    | some x => exact ⟨_, rfl, rfl⟩
/-! ### tokens -/
end Go.Proofs.YtlhpclfkoblnkaaDoor

/- Plain laws: the document's Utf8 is the library's. -/
set_option linter.unusedVariables false
set_option maxRecDepth 100000
namespace Go.Proofs.YtlhpclfkoblnkaaDoor
open Go.GB Go.Lib
/-- The byte at a place, 0 behind the end. -/
def bat (s : ByteArray) (i : Nat) : Nat := (s.data.toList.getD i 0).toNat
theorem bat_lt (s : ByteArray) (i : Nat) : bat s i < 256 := UInt8.toNat_lt _
theorem bx_bat {s : ByteArray} {i : Nat} (h : i < s.size) : bx s (i : Int) = some ((bat s i : Nat) : Int) := bx_at h
theorem fin_and {P : Nat → Prop} (h : ∀ c : Fin 256, P c.val) {n : Nat} (hn : n < 256) : P n := h ⟨n, hn⟩
theorem l79_end {s : ByteArray} {i n least r0 : Nat} {r k : Nat} (h : n < k) (hk : k < 100) : loopO (tocsinref01_Utf8_l79 s (i : Int) ((n : Int), (least : Int), (r0 : Int))) ((r : Int), (k : Int)) = some (.inl (r : Int)) := by
  refine loopO_done ?_
  unfold tocsinref01_Utf8_l79
  rw [show decide (((r : Int), (k : Int)).2 ≤ ((n : Int), (least : Int), (r0 : Int)).1) = false from decide_eq_false (by show ¬ ((k : Int) ≤ (n : Int)); omega)]
  rfl
theorem l79_step {s : ByteArray} {i n least r0 : Nat} {r k : Nat} (hs : s.size < 4611686018427387904) (hi : i < s.size) (h : k ≤ n) (hn : n ≤ 3) (hr : r < 16777216) :
    tocsinref01_Utf8_l79 s (i : Int) ((n : Int), (least : Int), (r0 : Int)) ((r : Int), (k : Int)) =
      if i + k < s.size ∧ bat s (i + k) / 64 = 2 then some (.inl (((r * 64 + bat s (i + k) % 64 : Nat) : Int), ((k + 1 : Nat) : Int))) else some (.inr (.inr (.inr (.inr (.inr false))))) := by
  unfold tocsinref01_Utf8_l79
  simp only
  rw [show decide ((k : Int) ≤ (n : Int)) = true from decide_eq_true (by omega)]
  have e1 : IntKind.wrap .i64 ((i : Int) + (k : Int)) = ((i + k : Nat) : Int) := by rw [wrap64 (by omega) (by omega)]; omega
  simp only [cond_true, e1]
  by_cases hlt : i + k < s.size
  · rw [show decide (((i + k : Nat) : Int) ≥ (s.size : Int)) = false from decide_eq_false (by omega)]
    have hb := bat_lt s (i + k)
    have h1 : (bitAnd .u8 ((bat s (i + k) : Nat) : Int) 192 != 128) = !(decide (bat s (i + k) / 64 = 2)) := fin_and (P := fun n => (bitAnd .u8 ((n : Nat) : Int) 192 != 128) = !(decide (n / 64 = 2))) and192 hb
    have h2 : bitAnd .u8 ((bat s (i + k) : Nat) : Int) 63 = ((bat s (i + k) % 64 : Nat) : Int) := fin_and (P := fun n => bitAnd .u8 ((n : Nat) : Int) 63 = ((n % 64 : Nat) : Int)) and63 hb
    simp only [cond_false, bx_bat hlt, Option.bind_some, h1, h2]
    by_cases hc : bat s (i + k) / 64 = 2
    · rw [if_pos ⟨hlt, hc⟩]
      simp only [hc, decide_true, Bool.not_true, cond_false, bx_bat hlt, Option.bind_some, h2]
      have e2 : IntKind.wrap .i64 ((r : Int) * 64) = ((r * 64 : Nat) : Int) := by rw [wrap64 (by omega) (by omega)]; omega
      have e3 : IntKind.wrap .i64 ((bat s (i + k) % 64 : Nat) : Int) = ((bat s (i + k) % 64 : Nat) : Int) := wrap64 (by omega) (by omega)
      have e4 : IntKind.wrap .i64 (((r * 64 : Nat) : Int) + ((bat s (i + k) % 64 : Nat) : Int)) = ((r * 64 + bat s (i + k) % 64 : Nat) : Int) := by rw [wrap64 (by omega) (by omega)]; omega
      have e5 : IntKind.wrap .i64 ((k : Int) + 1) = ((k + 1 : Nat) : Int) := wrap_up (by omega)
      rw [e2, e3, e4, e5]
    · rw [if_neg (fun h => hc h.2)]
      simp only [hc, decide_false, Bool.not_false, cond_true]
  · rw [show decide (((i + k : Nat) : Int) ≥ (s.size : Int)) = true from decide_eq_true (by omega), if_neg (fun h => hlt h.1)]
    simp
/-- What a lead byte says: how many follow, the least, what it bears. -/
def leadN (c : Nat) : Option (Nat × Nat × Nat) := if 194 ≤ c ∧ c < 224 then some (1, 128, c % 32) else if 224 ≤ c ∧ c < 240 then some (2, 2048, c % 16) else if 240 ≤ c ∧ c < 245 then some (3, 65536, c % 8) else none
theorem l79_all {s : ByteArray} {i n least r0 : Nat} (hs : s.size < 4611686018427387904) (hi : i < s.size) (hn : 1 ≤ n ∧ n ≤ 3) (hr : r0 < 32) :
    loopO (tocsinref01_Utf8_l79 s (i : Int) ((n : Int), (least : Int), (r0 : Int))) ((r0 : Int), 1) =
      if (i + 1 < s.size ∧ bat s (i + 1) / 64 = 2) ∧ (2 ≤ n → i + 2 < s.size ∧ bat s (i + 2) / 64 = 2) ∧ (3 ≤ n → i + 3 < s.size ∧ bat s (i + 3) / 64 = 2) then
        some (.inl ((if n = 1 then r0 * 64 + bat s (i + 1) % 64 else if n = 2 then (r0 * 64 + bat s (i + 1) % 64) * 64 + bat s (i + 2) % 64 else ((r0 * 64 + bat s (i + 1) % 64) * 64 + bat s (i + 2) % 64) * 64 + bat s (i + 3) % 64 : Nat) : Int))
      else some (.inr (.inr (.inr (.inr false)))) := by
  have h1 := l79_step (s := s) (i := i) (n := n) (least := least) (r0 := r0) (r := r0) (k := 1) hs hi (by omega) hn.2 (by omega)
  by_cases c1 : i + 1 < s.size ∧ bat s (i + 1) / 64 = 2
  · rw [if_pos c1] at h1
    rw [show (1 : Int) = ((1 : Nat) : Int) from rfl, loopO_step h1]
    have b1 := bat_lt s (i + 1)
    by_cases n1 : n = 1
    · subst n1
      rw [l79_end (by omega) (by omega), if_pos ⟨c1, by omega, by omega⟩, if_pos rfl]
    · have h2 := l79_step (s := s) (i := i) (n := n) (least := least) (r0 := r0) (r := r0 * 64 + bat s (i + 1) % 64) (k := 2) hs hi (by omega) hn.2 (by omega)
      by_cases c2 : i + 2 < s.size ∧ bat s (i + 2) / 64 = 2
      · rw [if_pos c2] at h2
        rw [show ((1 + 1 : Nat) : Int) = ((2 : Nat) : Int) from rfl, loopO_step h2]
        have b2 := bat_lt s (i + 2)
        by_cases n2 : n = 2
        · subst n2
          rw [l79_end (by omega) (by omega), if_pos ⟨c1, fun _ => c2, by omega⟩]
          rfl
        · have h3 := l79_step (s := s) (i := i) (n := n) (least := least) (r0 := r0) (r := (r0 * 64 + bat s (i + 1) % 64) * 64 + bat s (i + 2) % 64) (k := 3) hs hi (by omega) hn.2 (by omega)
          by_cases c3 : i + 3 < s.size ∧ bat s (i + 3) / 64 = 2
          · rw [if_pos c3] at h3
            rw [show ((2 + 1 : Nat) : Int) = ((3 : Nat) : Int) from rfl, loopO_step h3, l79_end (by omega) (by omega), if_pos ⟨c1, fun _ => c2, fun _ => c3⟩, if_neg n1, if_neg n2]
          · rw [if_neg c3] at h3
            rw [show ((2 + 1 : Nat) : Int) = ((3 : Nat) : Int) from rfl, loopO_done h3, if_neg (fun h => c3 (h.2.2 (by omega)))]
      · rw [if_neg c2] at h2
        rw [show ((1 + 1 : Nat) : Int) = ((2 : Nat) : Int) from rfl, loopO_done h2, if_neg (fun h => c2 (h.2.1 (by omega)))]
  · rw [if_neg c1] at h1
    rw [show (1 : Int) = ((1 : Nat) : Int) from rfl, loopO_done h1, if_neg (fun h => c1 h.1)]
def contN (s : ByteArray) (i n least r0 : Nat) : Option Nat :=
  if (i + 1 < s.size ∧ bat s (i + 1) / 64 = 2) ∧ (2 ≤ n → i + 2 < s.size ∧ bat s (i + 2) / 64 = 2) ∧ (3 ≤ n → i + 3 < s.size ∧ bat s (i + 3) / 64 = 2) then
    (let r := if n = 1 then r0 * 64 + bat s (i + 1) % 64 else if n = 2 then (r0 * 64 + bat s (i + 1) % 64) * 64 + bat s (i + 2) % 64 else ((r0 * 64 + bat s (i + 1) % 64) * 64 + bat s (i + 2) % 64) * 64 + bat s (i + 3) % 64
     if r < least ∨ r > 1114111 ∨ (55296 ≤ r ∧ r < 57344) then none else some (i + n + 1))
  else none
/-- One round of the document's loop: the place behind the rune, or none. -/
def stepN (s : ByteArray) (i : Nat) : Option Nat :=
  if bat s i < 128 then some (i + 1) else match leadN (bat s i) with
    | none => none
    | some (n, least, r0) => contN s i n least r0
theorem l17_tail {s : ByteArray} {i n least r0 : Nat} (hs : s.size < 4611686018427387904) (hi : i < s.size) (hn : 1 ≤ n ∧ n ≤ 3) (hr : r0 < 32) (hl : least ≤ 65536) {X : Option ((Int) ⊕ ((Int) ⊕ ((Unit) ⊕ (Bool))))}
    (hX : X = Option.bind (loopO (tocsinref01_Utf8_l79 s (i : Int) ((n : Int), (least : Int), (r0 : Int))) ((r0 : Int), 1)) fun (r67 : (Int) ⊕ ((Int) ⊕ ((Int) ⊕ ((Unit) ⊕ (Bool))))) =>
          match r67 with
          | Sum.inl r75 => bif (((decide (r75 < (least : Int))) || (decide (r75 > 1114111))) || ((decide (r75 ≥ 55296)) && (decide (r75 < 57344)))) then
            (some (Sum.inr (Sum.inr (Sum.inr false))))
            else
            (some (Sum.inl (IntKind.wrap .i64 ((IntKind.wrap .i64 ((i : Int) + (n : Int))) + 1))))
          | Sum.inr v102 => some v102) :
    X = match contN s i n least r0 with
      | some j => some (Sum.inl (j : Int))
      | none => some (Sum.inr (Sum.inr (Sum.inr false))) := by
  subst hX
  rw [l79_all hs hi hn hr]
  unfold contN
  split
  · simp only [Option.bind_some]
    generalize (if n = 1 then r0 * 64 + bat s (i + 1) % 64 else if n = 2 then (r0 * 64 + bat s (i + 1) % 64) * 64 + bat s (i + 2) % 64 else ((r0 * 64 + bat s (i + 1) % 64) * 64 + bat s (i + 2) % 64) * 64 + bat s (i + 3) % 64) = r
    have e1 : IntKind.wrap .i64 (IntKind.wrap .i64 ((i : Int) + (n : Int)) + 1) = ((i + n + 1 : Nat) : Int) := by
      rw [wrap64 (x := (i : Int) + (n : Int)) (by omega) (by omega), wrap64 (by omega) (by omega)]; omega
    rw [e1]
    by_cases hb : r < least ∨ r > 1114111 ∨ (55296 ≤ r ∧ r < 57344)
    · rw [if_pos hb]
      have : (((decide ((r : Int) < (least : Int))) || (decide ((r : Int) > 1114111))) || ((decide ((r : Int) ≥ 55296)) && (decide ((r : Int) < 57344)))) = true := by
        simp only [Bool.or_eq_true, Bool.and_eq_true, decide_eq_true_eq]; omega
      rw [this]; rfl
    · rw [if_neg hb]
      have : (((decide ((r : Int) < (least : Int))) || (decide ((r : Int) > 1114111))) || ((decide ((r : Int) ≥ 55296)) && (decide ((r : Int) < 57344)))) = false := by
        rw [Bool.eq_false_iff]
        simp only [ne_eq, Bool.or_eq_true, Bool.and_eq_true, decide_eq_true_eq]; omega
      rw [this]; rfl
  · rfl
theorem l17_round {s : ByteArray} {i : Nat} (hs : s.size < 4611686018427387904) (hi : i < s.size) :
    tocsinref01_Utf8_l17 s (i : Int) = match stepN s i with | some j => some (.inl (j : Int)) | none => some (.inr (.inr false)) := by
  unfold tocsinref01_Utf8_l17
  have hb := bat_lt s i
  have w1 : IntKind.wrap .i64 ((bat s i : Nat) : Int) = ((bat s i : Nat) : Int) := wrap64 (by omega) (by omega)
  rw [show decide ((i : Int) < (s.size : Int)) = true from decide_eq_true (by omega)]
  simp only [cond_true, bx_bat hi, Option.bind_some, w1]
  unfold stepN
  by_cases h0 : bat s i < 128
  · rw [if_pos h0, show decide (((bat s i : Nat) : Int) < 128) = true from decide_eq_true (by omega), show IntKind.wrap .i64 ((i : Int) + 1) = ((i + 1 : Nat) : Int) from by rw [wrap64 (by omega) (by omega)]; omega]
    rfl
  · rw [if_neg h0, show decide (((bat s i : Nat) : Int) < 128) = false from decide_eq_false (by omega)]
    simp only [cond_false]
    have a31 : bitAnd .i64 ((bat s i : Nat) : Int) 31 = ((bat s i % 32 : Nat) : Int) := fin_and (P := fun n => bitAnd .i64 ((n : Nat) : Int) 31 = ((n % 32 : Nat) : Int)) and31 hb
    have a15 : bitAnd .i64 ((bat s i : Nat) : Int) 15 = ((bat s i % 16 : Nat) : Int) := fin_and (P := fun n => bitAnd .i64 ((n : Nat) : Int) 15 = ((n % 16 : Nat) : Int)) and15 hb
    have a7 : bitAnd .i64 ((bat s i : Nat) : Int) 7 = ((bat s i % 8 : Nat) : Int) := fin_and (P := fun n => bitAnd .i64 ((n : Nat) : Int) 7 = ((n % 8 : Nat) : Int)) Go.GB.and7 hb
    simp only [a31, a15, a7]
    unfold leadN
    by_cases c1 : 194 ≤ bat s i ∧ bat s i < 224
    · have : ((decide (((bat s i : Nat) : Int) ≥ 194)) && (decide (((bat s i : Nat) : Int) < 224))) = true := by simp only [Bool.and_eq_true, decide_eq_true_eq]; omega
      simp only [this, cond_true, Option.bind_some, if_pos c1]
      have hT := l17_tail (s := s) (i := i) (n := 1) (least := 128) (r0 := bat s i % 32) hs hi (by omega) (by omega) (by omega) rfl
      simp only [show ((1 : Nat) : Int) = 1 from rfl, show ((128 : Nat) : Int) = 128 from rfl] at hT
      refine Eq.trans (congrArg (fun X => Option.bind X _) hT) ?_
      cases contN s i 1 128 (bat s i % 32) <;> rfl
    · have f1 : ((decide (((bat s i : Nat) : Int) ≥ 194)) && (decide (((bat s i : Nat) : Int) < 224))) = false := by rw [Bool.eq_false_iff]; simp only [ne_eq, Bool.and_eq_true, decide_eq_true_eq]; omega
      simp only [f1, cond_false, if_neg c1]
      by_cases c2 : 224 ≤ bat s i ∧ bat s i < 240
      · have : ((decide (((bat s i : Nat) : Int) ≥ 224)) && (decide (((bat s i : Nat) : Int) < 240))) = true := by simp only [Bool.and_eq_true, decide_eq_true_eq]; omega
        simp only [this, cond_true, Option.bind_some, if_pos c2]
        have hT := l17_tail (s := s) (i := i) (n := 2) (least := 2048) (r0 := bat s i % 16) hs hi (by omega) (by omega) (by omega) rfl
        simp only [show ((2 : Nat) : Int) = 2 from rfl, show ((2048 : Nat) : Int) = 2048 from rfl] at hT
        refine Eq.trans (congrArg (fun X => Option.bind X _) hT) ?_
        cases contN s i 2 2048 (bat s i % 16) <;> rfl
      · have f2 : ((decide (((bat s i : Nat) : Int) ≥ 224)) && (decide (((bat s i : Nat) : Int) < 240))) = false := by rw [Bool.eq_false_iff]; simp only [ne_eq, Bool.and_eq_true, decide_eq_true_eq]; omega
        simp only [f2, cond_false, if_neg c2]
        by_cases c3 : 240 ≤ bat s i ∧ bat s i < 245
        · have : ((decide (((bat s i : Nat) : Int) ≥ 240)) && (decide (((bat s i : Nat) : Int) < 245))) = true := by simp only [Bool.and_eq_true, decide_eq_true_eq]; omega
          simp only [this, cond_true, Option.bind_some, if_pos c3]
          have hT := l17_tail (s := s) (i := i) (n := 3) (least := 65536) (r0 := bat s i % 8) hs hi (by omega) (by omega) (by omega) rfl
          simp only [show ((3 : Nat) : Int) = 3 from rfl, show ((65536 : Nat) : Int) = 65536 from rfl] at hT
          refine Eq.trans (congrArg (fun X => Option.bind X _) hT) ?_
          cases contN s i 3 65536 (bat s i % 8) <;> rfl
        · have f3 : ((decide (((bat s i : Nat) : Int) ≥ 240)) && (decide (((bat s i : Nat) : Int) < 245))) = false := by rw [Bool.eq_false_iff]; simp only [ne_eq, Bool.and_eq_true, decide_eq_true_eq]; omega
          simp only [f3, cond_false, if_neg c3, Option.bind_some]
theorem getD_drop (l : List UInt8) (i k : Nat) : (l.drop i).getD k 0 = l.getD (i + k) 0 := by simp [List.getD_eq_getElem?_getD, List.getElem?_drop]
theorem dec2 {n c b1 b2 b3 : Nat} (hc : 194 ≤ c ∧ c < 224) : decodeN n c b1 b2 b3 = if 1 < n ∧ b1 / 64 = 2 then (c % 32 * 64 + b1 % 64, 2) else (65533, 1) := by
  unfold decodeN
  rw [if_neg (by omega)]
  by_cases h : 1 < n ∧ b1 / 64 = 2
  · rw [if_pos ⟨by omega, h⟩, if_pos (by omega), if_pos h]
  · rw [if_neg (fun g => h g.2), if_neg (fun g => h g.2.1), if_neg (fun g => h g.2.1), if_neg h]
theorem dec3 {n c b1 b2 b3 : Nat} (hc : 224 ≤ c ∧ c < 240) : decodeN n c b1 b2 b3 = if (1 < n ∧ b1 / 64 = 2) ∧ (2 < n ∧ b2 / 64 = 2) then
    (if (c % 16 * 64 + b1 % 64) * 64 + b2 % 64 < 2048 ∨ (55296 ≤ (c % 16 * 64 + b1 % 64) * 64 + b2 % 64 ∧ (c % 16 * 64 + b1 % 64) * 64 + b2 % 64 < 57344) then (65533, 1) else ((c % 16 * 64 + b1 % 64) * 64 + b2 % 64, 3)) else (65533, 1) := by
  unfold decodeN
  rw [if_neg (by omega), if_neg (by omega)]
  by_cases h : (1 < n ∧ b1 / 64 = 2) ∧ (2 < n ∧ b2 / 64 = 2)
  · rw [if_pos ⟨by omega, h⟩, if_pos h]
    have e : c % 16 * 4096 + b1 % 64 * 64 + b2 % 64 = (c % 16 * 64 + b1 % 64) * 64 + b2 % 64 := by omega
    rw [e]
    by_cases h2 : (c % 16 * 64 + b1 % 64) * 64 + b2 % 64 < 2048 ∨ (55296 ≤ (c % 16 * 64 + b1 % 64) * 64 + b2 % 64 ∧ (c % 16 * 64 + b1 % 64) * 64 + b2 % 64 < 57344)
    · rw [if_pos h2, if_neg (by omega)]
    · rw [if_neg h2, if_pos (by omega)]
  · rw [if_neg (fun g => h g.2), if_neg (fun g => h ⟨g.2.1, g.2.2.1⟩), if_neg h]
theorem dec4 {n c b1 b2 b3 : Nat} (hc : 240 ≤ c ∧ c < 245) : decodeN n c b1 b2 b3 = if (1 < n ∧ b1 / 64 = 2) ∧ (2 < n ∧ b2 / 64 = 2) ∧ (3 < n ∧ b3 / 64 = 2) then
    (if ((c % 8 * 64 + b1 % 64) * 64 + b2 % 64) * 64 + b3 % 64 < 65536 ∨ 1114111 < ((c % 8 * 64 + b1 % 64) * 64 + b2 % 64) * 64 + b3 % 64 then (65533, 1) else (((c % 8 * 64 + b1 % 64) * 64 + b2 % 64) * 64 + b3 % 64, 4)) else (65533, 1) := by
  unfold decodeN
  rw [if_neg (by omega), if_neg (by omega), if_neg (by omega)]
  by_cases h : (1 < n ∧ b1 / 64 = 2) ∧ (2 < n ∧ b2 / 64 = 2) ∧ (3 < n ∧ b3 / 64 = 2)
  · rw [if_pos ⟨by omega, h⟩, if_pos h]
    have e : c % 8 * 262144 + b1 % 64 * 4096 + b2 % 64 * 64 + b3 % 64 = ((c % 8 * 64 + b1 % 64) * 64 + b2 % 64) * 64 + b3 % 64 := by omega
    rw [e]
    by_cases h2 : ((c % 8 * 64 + b1 % 64) * 64 + b2 % 64) * 64 + b3 % 64 < 65536 ∨ 1114111 < ((c % 8 * 64 + b1 % 64) * 64 + b2 % 64) * 64 + b3 % 64
    · rw [if_pos h2, if_neg (by omega)]
    · rw [if_neg h2, if_pos (by omega)]
  · rw [if_neg (fun g => h g.2), if_neg h]
set_option maxHeartbeats 1000000 in
/-- The document's round and the library's are one. -/
theorem stepN_valid {s : ByteArray} {i : Nat} (hi : i < s.size) : validD (s.data.toList.drop i) = match stepN s i with | some j => validD (s.data.toList.drop j) | none => false := by
  have hl : s.data.toList.length = s.size := size_list s
  have hne : s.data.toList.drop i ≠ [] := by intro h; have := congrArg List.length h; simp at this; omega
  have hlen : (s.data.toList.drop i).length = s.size - i := by rw [List.length_drop, hl]
  rw [validD_step _ hne, decodeL_N, hlen]
  simp only [getD_drop, Nat.add_zero]
  have b0 := bat_lt s i
  change (if (decodeN (s.size - i) (bat s i) (bat s (i + 1)) (bat s (i + 2)) (bat s (i + 3))).1 = 65533 ∧ (decodeN (s.size - i) (bat s i) (bat s (i + 1)) (bat s (i + 2)) (bat s (i + 3))).2 = 1 then false else validD ((s.data.toList.drop i).drop (decodeN (s.size - i) (bat s i) (bat s (i + 1)) (bat s (i + 2)) (bat s (i + 3))).2)) = _
  rw [List.drop_drop]
  unfold stepN leadN
  by_cases h0 : bat s i < 128
  · rw [if_pos h0, show decodeN (s.size - i) (bat s i) (bat s (i + 1)) (bat s (i + 2)) (bat s (i + 3)) = (bat s i, 1) from by unfold decodeN; rw [if_pos h0]]
    rw [if_neg (by simp; omega)]
  · rw [if_neg h0]
    by_cases c1 : 194 ≤ bat s i ∧ bat s i < 224
    · rw [if_pos c1, dec2 c1]
      show _ = match contN s i 1 128 (bat s i % 32) with | some j => validD (s.data.toList.drop j) | none => false
      by_cases k1 : i + 1 < s.size ∧ bat s (i + 1) / 64 = 2
      · have e : contN s i 1 128 (bat s i % 32) = some (i + 1 + 1) := by
          unfold contN
          rw [if_pos ⟨k1, by omega, by omega⟩]
          simp only [if_true]
          rw [if_neg (by omega)]
        rw [e, if_pos (show 1 < s.size - i ∧ bat s (i + 1) / 64 = 2 from ⟨by omega, k1.2⟩), if_neg (by simp)]; rfl
      · have e : contN s i 1 128 (bat s i % 32) = none := by
          unfold contN
          rw [if_neg (fun g => k1 g.1)]
        rw [e, if_neg (show ¬ (1 < s.size - i ∧ bat s (i + 1) / 64 = 2) from fun g => k1 ⟨by omega, g.2⟩), if_pos ⟨rfl, rfl⟩]
    · rw [if_neg c1]
      by_cases c2 : 224 ≤ bat s i ∧ bat s i < 240
      · rw [if_pos c2, dec3 c2]
        show _ = match contN s i 2 2048 (bat s i % 16) with | some j => validD (s.data.toList.drop j) | none => false
        by_cases k1 : (i + 1 < s.size ∧ bat s (i + 1) / 64 = 2) ∧ (i + 2 < s.size ∧ bat s (i + 2) / 64 = 2)
        · rw [if_pos (show (1 < s.size - i ∧ bat s (i + 1) / 64 = 2) ∧ (2 < s.size - i ∧ bat s (i + 2) / 64 = 2) from ⟨⟨by omega, k1.1.2⟩, by omega, k1.2.2⟩)]
          by_cases k2 : (bat s i % 16 * 64 + bat s (i + 1) % 64) * 64 + bat s (i + 2) % 64 < 2048 ∨ (55296 ≤ (bat s i % 16 * 64 + bat s (i + 1) % 64) * 64 + bat s (i + 2) % 64 ∧ (bat s i % 16 * 64 + bat s (i + 1) % 64) * 64 + bat s (i + 2) % 64 < 57344)
          · have e : contN s i 2 2048 (bat s i % 16) = none := by
              unfold contN
              rw [if_pos ⟨k1.1, fun _ => k1.2, by omega⟩]
              simp only [show ¬ (2 : Nat) = 1 from by omega, if_false, if_true]
              rw [if_pos (by omega)]
            rw [e, if_pos k2, if_pos ⟨rfl, rfl⟩]
          · have e : contN s i 2 2048 (bat s i % 16) = some (i + 2 + 1) := by
              unfold contN
              rw [if_pos ⟨k1.1, fun _ => k1.2, by omega⟩]
              simp only [show ¬ (2 : Nat) = 1 from by omega, if_false, if_true]
              rw [if_neg (by omega)]
            rw [e, if_neg k2, if_neg (by simp)]; rfl
        · have e : contN s i 2 2048 (bat s i % 16) = none := by
            unfold contN
            rw [if_neg (fun g => k1 ⟨g.1, g.2.1 (by omega)⟩)]
          rw [e, if_neg (show ¬ ((1 < s.size - i ∧ bat s (i + 1) / 64 = 2) ∧ (2 < s.size - i ∧ bat s (i + 2) / 64 = 2)) from fun g => k1 ⟨⟨by omega, g.1.2⟩, by omega, g.2.2⟩), if_pos ⟨rfl, rfl⟩]
      · rw [if_neg c2]
        by_cases c3 : 240 ≤ bat s i ∧ bat s i < 245
        · rw [if_pos c3, dec4 c3]
          show _ = match contN s i 3 65536 (bat s i % 8) with | some j => validD (s.data.toList.drop j) | none => false
          by_cases k1 : (i + 1 < s.size ∧ bat s (i + 1) / 64 = 2) ∧ (i + 2 < s.size ∧ bat s (i + 2) / 64 = 2) ∧ (i + 3 < s.size ∧ bat s (i + 3) / 64 = 2)
          · rw [if_pos (show (1 < s.size - i ∧ bat s (i + 1) / 64 = 2) ∧ (2 < s.size - i ∧ bat s (i + 2) / 64 = 2) ∧ (3 < s.size - i ∧ bat s (i + 3) / 64 = 2) from ⟨⟨by omega, k1.1.2⟩, ⟨by omega, k1.2.1.2⟩, by omega, k1.2.2.2⟩)]
            by_cases k2 : ((bat s i % 8 * 64 + bat s (i + 1) % 64) * 64 + bat s (i + 2) % 64) * 64 + bat s (i + 3) % 64 < 65536 ∨ 1114111 < ((bat s i % 8 * 64 + bat s (i + 1) % 64) * 64 + bat s (i + 2) % 64) * 64 + bat s (i + 3) % 64
            · have e : contN s i 3 65536 (bat s i % 8) = none := by
                unfold contN
                rw [if_pos ⟨k1.1, fun _ => k1.2.1, fun _ => k1.2.2⟩]
                simp only [show ¬ (3 : Nat) = 1 from by omega, show ¬ (3 : Nat) = 2 from by omega, if_false]
                rw [if_pos (by omega)]
              rw [e, if_pos k2, if_pos ⟨rfl, rfl⟩]
            · have e : contN s i 3 65536 (bat s i % 8) = some (i + 3 + 1) := by
                unfold contN
                rw [if_pos ⟨k1.1, fun _ => k1.2.1, fun _ => k1.2.2⟩]
                simp only [show ¬ (3 : Nat) = 1 from by omega, show ¬ (3 : Nat) = 2 from by omega, if_false]
                rw [if_neg (by omega)]
              rw [e, if_neg k2, if_neg (by simp)]; rfl
          · have e : contN s i 3 65536 (bat s i % 8) = none := by
              unfold contN
              rw [if_neg (fun g => k1 ⟨g.1, g.2.1 (by omega), g.2.2 (by omega)⟩)]
            rw [e, if_neg (show ¬ ((1 < s.size - i ∧ bat s (i + 1) / 64 = 2) ∧ (2 < s.size - i ∧ bat s (i + 2) / 64 = 2) ∧ (3 < s.size - i ∧ bat s (i + 3) / 64 = 2)) from fun g => k1 ⟨⟨by omega, g.1.2⟩, ⟨by omega, g.2.1.2⟩, by omega, g.2.2.2⟩), if_pos ⟨rfl, rfl⟩]
        · rw [if_neg c3, decodeN_bad _ _ _ _ _ (by omega)]
          simp
theorem contN_some {s : ByteArray} {i n least r0 j : Nat} (h : contN s i n least r0 = some j) : j = i + n + 1 ∧ (i + 1 < s.size ∧ bat s (i + 1) / 64 = 2) ∧ (2 ≤ n → i + 2 < s.size ∧ bat s (i + 2) / 64 = 2) ∧ (3 ≤ n → i + 3 < s.size ∧ bat s (i + 3) / 64 = 2) := by
  unfold contN at h
  split at h
  · rename_i hc
    refine ⟨?_, hc⟩
    have : ∀ (p : Prop) [Decidable p], (if p then none else some (i + n + 1)) = some j → j = i + n + 1 := fun p _ hp => by
      split at hp <;> cases hp
      rfl
    exact this _ h
  · cases h
theorem stepN_up {s : ByteArray} {i j : Nat} (h : stepN s i = some j) : i < j := by
  unfold stepN at h
  split at h
  · cases h; omega
  · split at h
    · cases h
    · have := (contN_some h).1; omega
theorem stepN_le {s : ByteArray} {i j : Nat} (hi : i < s.size) (h : stepN s i = some j) : j ≤ s.size := by
  unfold stepN at h
  split at h
  · cases h; omega
  · unfold leadN at h
    split at h
    · cases h
    · rename_i n least r0 hl
      obtain ⟨rfl, h1, h2, h3⟩ := contN_some h
      split at hl
      · cases hl; omega
      · split at hl
        · cases hl; have := h2 (by omega); omega
        · split at hl
          · cases hl; have := h3 (by omega); omega
          · cases hl
theorem utf8_loop {s : ByteArray} (hs : s.size < 4611686018427387904) : ∀ d i : Nat, s.size - i = d → i ≤ s.size → loopO (tocsinref01_Utf8_l17 s) (i : Int) = some (if validD (s.data.toList.drop i) then .inl () else .inr false) := by
  intro d
  induction d using Nat.strongRecOn with
  | _ d ih =>
    intro i hd hi
    by_cases hlt : i < s.size
    · have hr := l17_round hs hlt
      have hv := stepN_valid hlt
      cases hn : stepN s i with
      | none =>
        rw [hn] at hr hv
        rw [loopO_done hr, hv]; rfl
      | some j =>
        rw [hn] at hr hv
        have h1 := stepN_up hn
        have h2 := stepN_le hlt hn
        rw [loopO_step hr, hv]
        exact ih (s.size - j) (by omega) j rfl h2
    · have : i = s.size := by omega
      subst this
      have he : tocsinref01_Utf8_l17 s (s.size : Int) = some (.inr (.inl ())) := by
        unfold tocsinref01_Utf8_l17
        rw [show decide ((s.size : Int) < (s.size : Int)) = false from decide_eq_false (by omega)]
        rfl
      rw [loopO_done he]
      rw [show s.data.toList.drop s.size = [] from List.drop_eq_nil_of_le (Nat.le_of_eq (size_list s))]
      rfl
/-- The document's Utf8 is the library's ValidString. -/
theorem refUtf8_eq {s : ByteArray} (hs : s.size < 4611686018427387904) : tocsinref01_Utf8 s = some (validD s.data.toList) := by
  unfold tocsinref01_Utf8
  have := utf8_loop hs s.size 0 (by omega) (by omega)
  rw [show ((0 : Nat) : Int) = 0 from rfl, List.drop_zero] at this
  rw [this]
  cases validD s.data.toList <;> rfl
theorem valid_eq {s : ByteArray} (hs : s.size < 4611686018427387904) : utf8_ValidString s = some (validD s.data.toList) := by
  unfold utf8_ValidString
  rw [if_pos (by omega)]
end Go.Proofs.YtlhpclfkoblnkaaDoor

/- Plain laws: the document's scans are the lists'. -/
set_option linter.unusedVariables false
set_option maxRecDepth 100000
namespace Go.Proofs.YtlhpclfkoblnkaaDoor
open Go.GB Go.Lib
theorem rlet_eq {c : Nat} (h : c < 256) : tocsinref13_letter (c : Int) = letN c := fin_all (P := fun n => tocsinref13_letter (n : Int) = letN n) (by unfold tocsinref13_letter; decide +kernel) h
theorem rdig_eq {c : Nat} (h : c < 256) : tocsinref13_digit (c : Int) = digN c := fin_all (P := fun n => tocsinref13_digit (n : Int) = digN n) (by unfold tocsinref13_digit; decide +kernel) h
theorem rhex_eq {c : Nat} (h : c < 256) : tocsinref13_hex (c : Int) = hexN c := fin_all (P := fun n => tocsinref13_hex (n : Int) = hexN n) (by unfold tocsinref13_hex tocsinref13_digit; decide +kernel) h
/-- a loop that goes on while bytes are of a kind -/
theorem while_eq {s : ByteArray} {body : Int → Option (Int ⊕ Int)} (p : Nat → Bool) (hs : s.size < 4294967296)
    (hb : ∀ k : Nat, k ≤ s.size → body (k : Int) = some (if k < s.size ∧ p (gB (tl s) k) = true then .inl ((k + 1 : Nat) : Int) else .inr (k : Int))) {a : Nat} (ha : a ≤ s.size) :
    loopO body (a : Int) = some ((a + runL p ((tl s).drop a) : Nat) : Int) := by
  have hl := tl_len s
  have := loop_runL (body := body) (l := tl s) (p := p) 0 (fun k hk => by rw [Nat.zero_add, hl]; exact hb k (by omega)) (s.size - a) a (by omega)
  rw [Nat.zero_add] at this
  exact this
theorem while_body {s : ByteArray} {p : Nat → Bool} {k : Nat} {j : Bool} (hs : s.size < 4294967296) (h0 : p 0 = false) (hj : j = p (gB (tl s) k)) (hk : k ≤ s.size) :
    (bif j then some (Sum.inl (IntKind.wrap .i64 ((k : Int) + 1))) else some (Sum.inr (k : Int)) : Option (Int ⊕ Int)) = some (if k < s.size ∧ p (gB (tl s) k) = true then .inl ((k + 1 : Nat) : Int) else .inr (k : Int)) := by
  have hl := tl_len s
  rw [wrapN (n := k + 1) (by omega) (by omega), hj]
  cases hc : p (gB (tl s) k) with
  | true =>
    have hi : k < s.size := by
      rcases Nat.lt_or_ge k s.size with h | h
      · exact h
      · rw [gB_out (by omega), h0] at hc; cases hc
    rw [cond_true, if_pos ⟨hi, rfl⟩]
  | false => rw [cond_false, if_neg (by simp)]
theorem rrun_eq {s : ByteArray} {a : Nat} (hs : s.size < 4294967296) (ha : a ≤ s.size) : tocsinref13_run s (a : Int) = some ((a + runL digN ((tl s).drop a) : Nat) : Int) := by
  unfold tocsinref13_run
  refine bind_of (while_eq digN hs (fun k hk => ?_) ha) rfl
  unfold tocsinref13_run_l16
  refine bind_of (at_if digN rfl (fun hi => by rw [rdig_eq (gB_lt _ _)])) ?_
  exact while_body hs rfl rfl hk
theorem rnumber_eq {s : ByteArray} {a : Nat} (hs : s.size < 4294967296) (ha : a < s.size) : tocsinref13_number s (a : Int) = some ((a + numL ((tl s).drop a) : Nat) : Int) := by
  have hl := tl_len s
  have eqc : ∀ (c k : Nat), (((c : Nat) : Int) == (k : Int)) = decide (c = k) := fun c k => by rw [Bool.eq_iff_iff, beq_iff_eq, decide_eq_true_eq]; omega
  unfold tocsinref13_number numL
  simp only [gB_drop, List.drop_drop, Nat.add_zero]
  have hrun2 : 0 < runL hexN ((tl s).drop (a + 2)) ↔ (a + 2 < s.size ∧ hexN (gB (tl s) (a + 2)) = true) := by
    rcases Nat.lt_or_ge (a + 2) (tl s).length with h | h
    · rw [runL_step h]
      split
      · rename_i hc; exact ⟨fun _ => ⟨by omega, hc⟩, fun _ => by omega⟩
      · rename_i hc; exact ⟨fun h => by omega, fun h => absurd h.2 hc⟩
    · rw [runL_out h]; exact ⟨fun h => by omega, fun h' => by omega⟩
  simp only [hrun2]
  refine bind_of (a := decide (gB (tl s) a = 48 ∧ (gB (tl s) (a + 1) = 120 ∨ gB (tl s) (a + 1) = 88) ∧ a + 2 < s.size ∧ hexN (gB (tl s) (a + 2)) = true)) ?_ ?_
  · rw [wrapN (n := a + 2) (by omega) (by omega)]
    by_cases h2 : a + 2 < s.size
    · rw [decide_eq_true (by omega), cond_true, bx_tl ha, Option.bind_some, wrapN (n := a + 1) (by omega) (by omega), bx_tl (i := a + 1) (by omega), bx_tl h2]
      simp only [Option.bind_some, rhex_eq (gB_lt _ _)]
      rw [show (((gB (tl s) a : Nat) : Int) == 48) = decide (gB (tl s) a = 48) from eqc _ 48, show (((gB (tl s) (a + 1) : Nat) : Int) == 120) = decide (gB (tl s) (a + 1) = 120) from eqc _ 120, show (((gB (tl s) (a + 1) : Nat) : Int) == 88) = decide (gB (tl s) (a + 1) = 88) from eqc _ 88]
      by_cases k1 : gB (tl s) a = 48 <;> by_cases k2 : gB (tl s) (a + 1) = 120 <;> by_cases k3 : gB (tl s) (a + 1) = 88 <;> by_cases k4 : hexN (gB (tl s) (a + 2)) = true <;> simp [k1, k2, k3, k4, h2]
    · rw [decide_eq_false (by omega), cond_false]
      congr 1; symm; rw [decide_eq_false_iff_not]; intro h; exact h2 h.2.2.1
  by_cases hH : gB (tl s) a = 48 ∧ (gB (tl s) (a + 1) = 120 ∨ gB (tl s) (a + 1) = 88) ∧ a + 2 < s.size ∧ hexN (gB (tl s) (a + 2)) = true
  · rw [decide_eq_true hH, cond_true, if_pos hH, wrapN (n := a + 2) (by omega) (by omega)]
    refine bind_of (while_eq hexN hs (fun k hk => ?_) (a := a + 2) (by omega)) (by rw [Nat.add_assoc])
    unfold tocsinref13_number_l36
    refine bind_of (at_if hexN rfl (fun hi => by rw [rhex_eq (gB_lt _ _)])) ?_
    exact while_body hs rfl rfl hk
  rw [decide_eq_false hH, cond_false, if_neg hH]
  have hA := runL_le digN ((tl s).drop a)
  rw [List.length_drop] at hA
  refine bind_of (rrun_eq hs (by omega)) ?_
  obtain ⟨A, hAe⟩ : ∃ A, runL digN ((tl s).drop a) = A := ⟨_, rfl⟩
  rw [hAe] at hA ⊢
  have hNA := numA_le (l := (tl s).drop a) (a := A) (by rw [List.length_drop]; omega)
  rw [List.length_drop] at hNA
  have hB := runL_le digN ((tl s).drop (a + A + 1))
  rw [List.length_drop] at hB
  have hnA : numA ((tl s).drop a) A = if gB (tl s) (a + A) = 46 then (if A + runL digN ((tl s).drop (a + A + 1)) = 0 then 0 else A + 1 + runL digN ((tl s).drop (a + A + 1))) else A := by
    unfold numA; rw [gB_drop, List.drop_drop, show a + (A + 1) = a + A + 1 from by omega]
  have hBd : 0 < runL digN ((tl s).drop (a + A + 1)) ↔ (a + A + 1 < s.size ∧ digN (gB (tl s) (a + A + 1)) = true) := by
    rcases Nat.lt_or_ge (a + A + 1) (tl s).length with h | h
    · rw [runL_step h]
      split
      · rename_i hc; exact ⟨fun _ => ⟨by omega, hc⟩, fun _ => by omega⟩
      · rename_i hc; exact ⟨fun h => by omega, fun h => absurd h.2 hc⟩
    · rw [runL_out h]; exact ⟨fun h => by omega, fun h' => by omega⟩
  refine bind_of (a := decide (gB (tl s) (a + A) = 46 ∧ (0 < A ∨ 0 < runL digN ((tl s).drop (a + A + 1))))) ?_ ?_
  · by_cases hi : a + A < s.size
    · rw [decide_eq_true (by omega), cond_true, bx_tl hi, Option.bind_some, show (((gB (tl s) (a + A) : Nat) : Int) == 46) = decide (gB (tl s) (a + A) = 46) from eqc _ 46]
      by_cases hd : gB (tl s) (a + A) = 46
      · rw [decide_eq_true hd, cond_true]
        by_cases h0 : 0 < A
        · rw [decide_eq_true (by omega), cond_true, decide_eq_true ⟨hd, .inl h0⟩]
        · rw [decide_eq_false (by omega), cond_false, wrapN (n := a + A + 1) (by omega) (by omega)]
          have := at_if (s := s) (i := a + A + 1) (f := fun c60 => some (tocsinref13_digit c60)) digN rfl (fun hi => by rw [rdig_eq (gB_lt _ _)])
          rw [this]
          congr 1
          rw [Bool.eq_iff_iff, decide_eq_true_eq, hBd]
          refine ⟨fun h => ⟨hd, .inr ⟨?_, h⟩⟩, fun h => ?_⟩
          · rcases Nat.lt_or_ge (a + A + 1) s.size with h' | h'
            · exact h'
            · rw [gB_out (by omega)] at h; cases h
          · rcases h.2 with h | h
            · exact absurd h h0
            · exact h.2
      · rw [decide_eq_false hd, cond_false]; congr 1; symm; rw [decide_eq_false_iff_not]; exact fun h => hd h.1
    · rw [decide_eq_false (by omega), cond_false]; congr 1; symm; rw [decide_eq_false_iff_not]
      intro h
      have := gB_in (l := tl s) (i := a + A) (by omega)
      omega
  refine bind_of (a := ((a + numA ((tl s).drop a) A : Nat) : Int)) ?_ ?_
  · rw [hnA]
    by_cases hc : gB (tl s) (a + A) = 46 ∧ (0 < A ∨ 0 < runL digN ((tl s).drop (a + A + 1)))
    · have hi := gB_in (l := tl s) (i := a + A) (by omega)
      rw [decide_eq_true hc, cond_true, if_pos hc.1, if_neg (by omega), wrapN (n := a + A + 1) (by omega) (by omega), rrun_eq hs (by omega), Option.bind_some]
      congr 2; omega
    · rw [decide_eq_false hc, cond_false]
      by_cases hd : gB (tl s) (a + A) = 46
      · have : ¬ (0 < A ∨ 0 < runL digN ((tl s).drop (a + A + 1))) := fun h => hc ⟨hd, h⟩
        rw [if_pos hd, if_pos (by omega)]
        congr 2; omega
      · rw [if_neg hd]
  obtain ⟨M, hM⟩ : ∃ M, numA ((tl s).drop a) A = M := ⟨_, rfl⟩
  rw [hM] at hNA ⊢
  rw [show (((a + M : Nat) : Int) == (a : Int)) = decide (M = 0) from by rw [Bool.eq_iff_iff, beq_iff_eq, decide_eq_true_eq]; omega]
  by_cases h0 : M = 0
  · rw [decide_eq_true h0, cond_true, if_pos h0]; rfl
  rw [decide_eq_false h0, cond_false, if_neg h0]
  have hexp : expL ((tl s).drop a) M = if gB (tl s) (a + M) = 101 ∨ gB (tl s) (a + M) = 69 then (if 0 < runL digN ((tl s).drop (a + expK ((tl s).drop a) M)) then expK ((tl s).drop a) M + runL digN ((tl s).drop (a + expK ((tl s).drop a) M)) else M) else M := by
    unfold expL; rw [gB_drop, List.drop_drop]
  rw [hexp]
  refine bind_of (a := decide (gB (tl s) (a + M) = 101 ∨ gB (tl s) (a + M) = 69)) ?_ ?_
  · exact at_if (fun c => decide (c = 101 ∨ c = 69)) rfl (fun hi => by
      rw [bx_tl hi, show (((gB (tl s) (a + M) : Nat) : Int) == 101) = decide (gB (tl s) (a + M) = 101) from eqc _ 101]
      simp only [Option.bind_some]
      rw [show (((gB (tl s) (a + M) : Nat) : Int) == 69) = decide (gB (tl s) (a + M) = 69) from eqc _ 69]
      by_cases h1 : gB (tl s) (a + M) = 101 <;> simp [h1])
  by_cases hE : gB (tl s) (a + M) = 101 ∨ gB (tl s) (a + M) = 69
  · rw [decide_eq_true hE, cond_true, if_pos hE]
    have hi := gB_in (l := tl s) (i := a + M) (by omega)
    have hKe : expK ((tl s).drop a) M = if gB (tl s) (a + M + 1) = 43 ∨ gB (tl s) (a + M + 1) = 45 then M + 2 else M + 1 := by
      unfold expK; rw [gB_drop, show a + (M + 1) = a + M + 1 from by omega]
    have hK := expK_le (l := (tl s).drop a) (n := M) (by rw [List.length_drop]; omega)
    rw [List.length_drop] at hK
    refine Eq.trans (b := (match (if 0 < runL digN ((tl s).drop (a + expK ((tl s).drop a) M)) then Sum.inr ((a + expK ((tl s).drop a) M + runL digN ((tl s).drop (a + expK ((tl s).drop a) M)) : Nat) : Int) else Sum.inl () : (Unit) ⊕ (Int)) with | Sum.inl _ => some ((a + M : Nat) : Int) | Sum.inr v => some v)) ?_ ?_
    · refine bind_of (a := if 0 < runL digN ((tl s).drop (a + expK ((tl s).drop a) M)) then Sum.inr ((a + expK ((tl s).drop a) M + runL digN ((tl s).drop (a + expK ((tl s).drop a) M)) : Nat) : Int) else Sum.inl ()) ?_ ?_
      · rw [wrapN (n := a + M + 1) (by omega) (by omega)]
        refine bind_of (a := decide (gB (tl s) (a + M + 1) = 43 ∨ gB (tl s) (a + M + 1) = 45)) ?_ ?_
        · exact at_if (fun c => decide (c = 43 ∨ c = 45)) rfl (fun hi => by
            rw [bx_tl hi, show (((gB (tl s) (a + M + 1) : Nat) : Int) == 43) = decide (gB (tl s) (a + M + 1) = 43) from eqc _ 43]
            simp only [Option.bind_some]
            rw [show (((gB (tl s) (a + M + 1) : Nat) : Int) == 45) = decide (gB (tl s) (a + M + 1) = 45) from eqc _ 45]
            by_cases h1 : gB (tl s) (a + M + 1) = 43 <;> simp [h1])
        refine bind_of (a := ((a + expK ((tl s).drop a) M : Nat) : Int)) ?_ ?_
        · rw [hKe]
          by_cases hS : gB (tl s) (a + M + 1) = 43 ∨ gB (tl s) (a + M + 1) = 45
          · rw [decide_eq_true hS, cond_true, if_pos hS, wrapN (n := a + (M + 2)) (by omega) (by omega)]
          · rw [decide_eq_false hS, cond_false, if_neg hS]; congr 2
        refine bind_of (rrun_eq hs (by omega)) ?_
        by_cases hr : 0 < runL digN ((tl s).drop (a + expK ((tl s).drop a) M))
        · rw [decide_eq_true (by omega), cond_true, if_pos hr, rrun_eq hs (by omega)]; rfl
        · rw [decide_eq_false (by omega), cond_false, if_neg hr]
      · rfl
    · by_cases hr : 0 < runL digN ((tl s).drop (a + expK ((tl s).drop a) M))
      · rw [if_pos hr, if_pos hr, Nat.add_assoc]
      · rw [if_neg hr, if_neg hr]
  · rw [decide_eq_false hE, cond_false, if_neg hE]; rfl
end Go.Proofs.YtlhpclfkoblnkaaDoor

set_option linter.unusedVariables false
set_option maxRecDepth 100000
namespace Go.GB
open Go.Lib
theorem find_from (c : Nat → Bool) {n k : Nat} (h : k ≤ n) : (List.range' k (n - k)).find? c = (List.range n).find? fun i => decide (k ≤ i) && c i := by
  have e : List.range n = List.range' 0 k ++ List.range' k (n - k) := by
    rw [List.range_eq_range', show List.range' 0 n = List.range' 0 (k + (n - k)) from by rw [Nat.add_sub_cancel' h], ← List.range'_append]; simp
  rw [e, List.find?_append]
  have h1 : (List.range' 0 k).find? (fun i => decide (k ≤ i) && c i) = none := by
    rw [List.find?_eq_none]
    intro x hx
    rw [List.mem_range'_1] at hx
    simp; omega
  rw [h1, Option.none_or]
  have h2 : ∀ l : List Nat, (∀ x ∈ l, k ≤ x) → l.find? (fun i => decide (k ≤ i) && c i) = l.find? c := by
    intro l
    induction l with
    | nil => intro _; rfl
    | cons x l ih =>
      intro hx
      rw [List.find?_cons, List.find?_cons, decide_eq_true (hx x (by simp)), Bool.true_and, ih (fun y hy => hx y (by simp [hy]))]
  rw [h2]
  intro x hx
  rw [List.mem_range'_1] at hx
  omega
theorem ofBytes_bi (l : List UInt8) : ofBytes (bi l) = ⟨l.toArray⟩ := by
  apply ba_eq
  rw [ofBytes_toList]
  unfold bi
  rw [List.map_map]
  show _ = l
  conv => rhs; rw [← List.map_id l]
  refine List.map_congr_left fun c _ => ?_
  show UInt8.ofNat (((c.toNat : Nat) : Int)).toNat = c
  rw [Int.toNat_natCast, UInt8.ofNat_toNat]
end Go.GB
namespace Go.Proofs.YtlhpclfkoblnkaaDoor
open Go.GB Go.Lib
theorem rUnits_at {i : Nat} (h : i < 7) : ∃ u : S93, tocsinref13_Units[i]? = some u ∧ tl u.f0 = uName i ∧ u.f1 = (uMs i : Int) := by
  match i, h with
  | 0, _ => exact ⟨_, rfl, rfl, rfl⟩
  | 1, _ => exact ⟨_, rfl, rfl, rfl⟩
  | 2, _ => exact ⟨_, rfl, rfl, rfl⟩
  | 3, _ => exact ⟨_, rfl, rfl, rfl⟩
  | 4, _ => exact ⟨_, rfl, rfl, rfl⟩
  | 5, _ => exact ⟨_, rfl, rfl, rfl⟩
  | 6, _ => exact ⟨_, rfl, rfl, rfl⟩
/-- a text stands at a place -/
theorem stands {s x : ByteArray} {a : Nat} (hs : s.size < 4294967296) (ha : a ≤ s.size) {α : Type} {f : ByteArray → Option α} {e : Option α} {r : Option α}
    (h1 : x.size ≤ s.size - a → f (s.extract a (a + x.size)) = r) (h2 : ¬ x.size ≤ s.size - a → e = r) :
    (bif decide (((x.size : Nat) : Int) ≤ IntKind.wrap .i64 ((s.size : Int) - (a : Int))) then Option.bind (sx s (a : Int) (IntKind.wrap .i64 ((a : Int) + (x.size : Int)))) f else e) = r := by
  rw [wrapN (n := s.size - a) (by omega) (by omega)]
  by_cases h : x.size ≤ s.size - a
  · rw [decide_eq_true (by omega), cond_true, wrapN (n := a + x.size) (by omega) (by omega), sx_tl (by omega) (by omega), Option.bind_some, h1 h]
  · rw [decide_eq_false (by omega), cond_false, h2 h]
theorem stands_eq {s x : ByteArray} {a : Nat} (h : x.size ≤ s.size - a) : ((s.extract a (a + x.size)).toList == x.toList) = (tl x).isPrefixOf ((tl s).drop a) := by
  rw [tl_inj, tl_extract, show a + x.size - a = x.size from by omega, Bool.eq_iff_iff, beq_iff_eq, List.isPrefixOf_iff_prefix, List.prefix_iff_eq_take, tl_len]
  exact ⟨fun h => h.symm, fun h => h.symm⟩
theorem stands_not {s x : ByteArray} {a : Nat} (h : ¬ x.size ≤ s.size - a) : (tl x).isPrefixOf ((tl s).drop a) = false := by
  rw [Bool.eq_false_iff]
  intro hp
  have := (List.isPrefixOf_iff_prefix.1 hp).length_le
  rw [List.length_drop, tl_len, tl_len] at this; omega
theorem runit_eq {s : ByteArray} {a first : Nat} (hs : s.size < 4294967296) (ha : a ≤ s.size) (hf : first ≤ 7) : tocsinref13_unit s (a : Int) (first : Int) = some (match unitR ((tl s).drop a) first with | some i => (i : Int) | none => -1) := by
  have hl := tl_len s
  unfold tocsinref13_unit
  have h := up_find_from (n := 7) (body := tocsinref13_unit_l24 s (a : Int))
    (fun i => if ((uName i).isPrefixOf ((tl s).drop a) && !(i == 4 && decide (gB ((tl s).drop a) 1 = 115))) then some (i : Int) else none)
    (fun i hi => by
      obtain ⟨u, hu, hu1, hu2⟩ := rUnits_at hi
      unfold tocsinref13_unit_l24
      rw [show ((tocsinref13_Units.length : Nat) : Int) = 7 from rfl, decide_eq_true (by omega), cond_true]
      have hix : ix tocsinref13_Units (i : Int) = some u := by rw [ix_nat]; exact hu
      refine bind_of hix ?_
      have key : ((uName i).isPrefixOf ((tl s).drop a) && !(i == 4 && decide (gB ((tl s).drop a) 1 = 115))) = true ∨ ((uName i).isPrefixOf ((tl s).drop a) && !(i == 4 && decide (gB ((tl s).drop a) 1 = 115))) = false := by
        cases ((uName i).isPrefixOf ((tl s).drop a) && !(i == 4 && decide (gB ((tl s).drop a) 1 = 115))) <;> simp
      refine bind_of (a := ((uName i).isPrefixOf ((tl s).drop a) && !(i == 4 && decide (gB ((tl s).drop a) 1 = 115)))) ?_ ?_
      · refine stands hs ha (fun hx => ?_) (fun hx => by rw [← hu1, stands_not hx]; rfl)
        rw [hix]
        simp only [Option.bind_some]
        rw [stands_eq hx, hu1]
        cases hp : (uName i).isPrefixOf ((tl s).drop a) with
        | false => rfl
        | true =>
          rw [cond_true, tl_inj, hu1]
          have hm : (uName i == tl (⟨#[109]⟩ : ByteArray)) = (i == 4) := by
            have : ∀ j : Fin 7, (uName j.val == [109]) = (j.val == 4) := by decide
            exact this ⟨i, hi⟩
          rw [hm]
          by_cases h4 : i = 4
          · subst h4
            rw [show ((4 : Nat) == 4) = true from rfl, cond_true]
            have hlen : 1 ≤ s.size - a := by
              have : u.f0.size = 1 := by rw [← tl_len, hu1]; rfl
              omega
            rw [wrapN (n := a + 1) (by omega) (by omega), gB_drop]
            by_cases hi2 : a + 1 < s.size
            · rw [decide_eq_true (by omega), cond_true, bx_tl hi2, Option.bind_some]
              rw [show (((gB (tl s) (a + 1) : Nat) : Int) == 115) = decide (gB (tl s) (a + 1) = 115) from by rw [Bool.eq_iff_iff, beq_iff_eq, decide_eq_true_eq]; omega]
              simp
            · rw [decide_eq_false (by omega), cond_false, gB_out (by omega)]; rfl
          · rw [show (i == 4) = false from by simp [h4]]; rfl
      · rcases key with hk | hk
        · rw [hk, cond_true, if_pos rfl]
        · rw [hk, cond_false, if_neg (by simp), wrapN (n := i + 1) (by omega) (by omega)])
    (by
      unfold tocsinref13_unit_l24
      rw [show ((tocsinref13_Units.length : Nat) : Int) = 7 from rfl]; rfl) (7 - first) first (by omega)
  refine bind_of h ?_
  rw [findSome_if, find_from _ hf]
  obtain ⟨o, ho⟩ : ∃ o, unitR ((tl s).drop a) first = o := ⟨_, rfl⟩
  rw [ho]
  unfold unitR at ho
  rw [ho]
  cases o <;> rfl
theorem rspan_loop {s : ByteArray} (hs : s.size < 4294967296) : ∀ (f a first : Nat), a ≤ s.size → first ≤ 7 → 8 ≤ first + f →
    loopO (tocsinref13_span_l17 s) ((a : Int), (first : Int)) = some (.inr ((a + spanRGo f ((tl s).drop a) first : Nat) : Int))
  | 0, a, first, _, h1, h2 => by omega
  | f + 1, a, first, ha, h1, h2 => by
    have hl := tl_len s
    have hdl := runL_le digN ((tl s).drop a)
    rw [List.length_drop] at hdl
    unfold spanRGo
    generalize hD : runL digN ((tl s).drop a) = D at *
    by_cases hd : D = 0
    · rw [if_pos hd]
      refine loopO_done (r := Sum.inr ((a + 0 : Nat) : Int)) ?_
      unfold tocsinref13_span_l17
      refine bind_of (rrun_eq hs ha) ?_
      rw [hD, hd, show (((a + 0 : Nat) : Int) == (a : Int)) = true from by simp]; rfl
    rw [if_neg hd, List.drop_drop]
    have hbody : tocsinref13_span_l17 s ((a : Int), (first : Int)) = match unitR ((tl s).drop (a + D)) first with
        | some i => some (.inl (((a + D + (uName i).length : Nat) : Int), ((i + 1 : Nat) : Int)))
        | none => some (.inr (.inr (a : Int))) := by
      unfold tocsinref13_span_l17
      refine bind_of (rrun_eq hs ha) ?_
      rw [hD, show (((a + D : Nat) : Int) == (((a : Int), (first : Int)) : Int × Int).1) = false from by rw [beq_eq_false_iff_ne]; show ¬ ((a + D : Nat) : Int) = (a : Int); omega, cond_false]
      refine bind_of (runit_eq hs (by omega) h1) ?_
      cases hu : unitR ((tl s).drop (a + D)) first with
      | none => rfl
      | some i =>
        obtain ⟨hi, hfi, hpre⟩ := unitR_some hu
        have hpl := hpre.length_le
        rw [List.length_drop] at hpl
        simp only
        rw [decide_eq_false (by omega), cond_false]
        obtain ⟨u, hu0, hu1, hu2⟩ := rUnits_at hi
        have husz : u.f0.size = (uName i).length := by rw [← tl_len, hu1]
        refine bind_of (show ix tocsinref13_Units (i : Int) = some u by rw [ix_nat]; exact hu0) ?_
        rw [husz, wrapN (n := a + D + (uName i).length) (by omega) (by omega), wrapN (n := i + 1) (by omega) (by omega)]
    cases hu : unitR ((tl s).drop (a + D)) first with
    | none =>
      rw [hu] at hbody
      rw [loopO_done hbody]; rfl
    | some i =>
      rw [hu] at hbody
      obtain ⟨hi, hfi, hpre⟩ := unitR_some hu
      have hpl := hpre.length_le
      rw [List.length_drop] at hpl
      simp only at hbody ⊢
      rw [loopO_step hbody, List.drop_drop, rspan_loop hs f _ _ (by omega) (by omega) (by omega)]
      simp only [Nat.add_assoc]
theorem rspan_eq {s : ByteArray} {a : Nat} (hs : s.size < 4294967296) (ha : a ≤ s.size) : tocsinref13_span s (a : Int) = some ((a + spanR ((tl s).drop a) : Nat) : Int) := by
  unfold tocsinref13_span
  exact bind_of (rspan_loop hs 8 a 0 ha (by omega) (by omega)) rfl
theorem rSigns_at {i : Nat} (h : i < 22) : ∃ u : ByteArray, tocsinref13_Signs[i]? = some u ∧ tl u = signsL.getD i [] := by
  have : ∀ j : Fin 22, (tocsinref13_Signs[j.val]?).map tl = some (signsL.getD j.val []) := by unfold tocsinref13_Signs; decide +kernel
  obtain ⟨u, h1, h2⟩ := Option.map_eq_some_iff.1 (this ⟨i, h⟩)
  exact ⟨u, h1, h2⟩
theorem rsign_eq {s : ByteArray} {a : Nat} (hs : s.size < 4294967296) (ha : a ≤ s.size) : tocsinref13_sign s (a : Int) = some (match signL ((tl s).drop a) with | some x => ⟨x.toArray⟩ | none => ⟨#[]⟩) := by
  unfold tocsinref13_sign
  have h := up_find_from (n := 22) (body := tocsinref13_sign_l24 s (a : Int))
    (fun i => if (signsL.getD i []).isPrefixOf ((tl s).drop a) then some (⟨(signsL.getD i []).toArray⟩ : ByteArray) else none)
    (fun i hi => by
      obtain ⟨u, hu, hu1⟩ := rSigns_at hi
      unfold tocsinref13_sign_l24
      rw [show ((tocsinref13_Signs.length : Nat) : Int) = 22 from rfl, decide_eq_true (by omega), cond_true]
      have hix : ix tocsinref13_Signs (i : Int) = some u := by rw [ix_nat]; exact hu
      refine bind_of hix ?_
      refine bind_of (a := (signsL.getD i []).isPrefixOf ((tl s).drop a)) ?_ ?_
      · refine stands hs ha (fun hx => ?_) (fun hx => by rw [← hu1, stands_not hx])
        rw [hix, Option.bind_some, stands_eq hx, hu1]
      · cases (signsL.getD i []).isPrefixOf ((tl s).drop a) with
        | true => rw [cond_true, if_pos rfl, hix, Option.bind_some, ← hu1]
        | false => rw [cond_false, if_neg (by simp), wrapN (n := i + 1) (by omega) (by omega)])
    (by
      unfold tocsinref13_sign_l24
      rw [show ((tocsinref13_Signs.length : Nat) : Int) = 22 from rfl]; rfl) 22 0 rfl
  refine bind_of h ?_
  rw [findSome_if, ← List.range_eq_range']
  have := find_getD [] (fun x => x.isPrefixOf ((tl s).drop a)) signsL
  rw [show signsL.length = 22 from rfl] at this
  unfold signL
  rw [← this]
  generalize (List.range 22).find? (fun i => (signsL.getD i []).isPrefixOf ((tl s).drop a)) = o
  cases o <;> rfl
end Go.Proofs.YtlhpclfkoblnkaaDoor
