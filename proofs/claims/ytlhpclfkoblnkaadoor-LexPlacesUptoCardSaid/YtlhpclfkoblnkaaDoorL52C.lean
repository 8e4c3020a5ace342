import Derived.Test.YtlhpclfkoblnkaaDoorL52
import Derived.Test.YtlhpclfkoblnkaaDoorGB13
import Derived.KernelRfl
import Derived.Lib.LaidU8T
import Derived.Shelf.Unicode.ValidAny
import Derived.Shelf.Unicode.DecodeAny
set_option linter.unusedVariables false
set_option linter.unusedSimpArgs false
set_option maxRecDepth 100000
namespace Go.Proofs.YtlhpclfkoblnkaaDoor
open Go.GB
noncomputable def lex_skip_l20_c (a1 : Int) (s2 : ByteArray) : (Nat × Bool) → Option ((Nat × Bool) ⊕ ((Unit) ⊕ (Int))) := fun s10 =>
  bif decide (s10.1 < s2.size) then
  (Option.bind ((bif ((runeAt s2 s10.1) == 10) then
      (some (Sum.inl false))
      else
      (Option.bind ((bif (((s10.2 || ((runeAt s2 s10.1) == 32)) || ((runeAt s2 s10.1) == 9)) || ((runeAt s2 s10.1) == 13)) then
          (some (Sum.inl s10.2))
          else
          (bif ((runeAt s2 s10.1) == 35) then
            (some (Sum.inl true))
            else
            (some (Sum.inr (Sum.inr (Sum.inr (Sum.inr (IntKind.wrap .i64 (a1 + (s10.1 : Int))))))))) : Option ((Bool) ⊕ ((Bool) ⊕ ((Nat × Bool) ⊕ ((Unit) ⊕ (Int))))))) fun (j38 : (Bool) ⊕ ((Bool) ⊕ ((Nat × Bool) ⊕ ((Unit) ⊕ (Int))))) =>
        match j38 with
        | Sum.inl j40 => some (Sum.inl j40)
        | Sum.inr v46 => some v46) : Option ((Bool) ⊕ ((Nat × Bool) ⊕ ((Unit) ⊕ (Int)))))) fun (j23 : (Bool) ⊕ ((Nat × Bool) ⊕ ((Unit) ⊕ (Int)))) =>
    match j23 with
    | Sum.inl j25 => some (Sum.inl ((s10.1 + runeW s2 s10.1), j25))
    | Sum.inr v47 => some v47)
  else
  (some (Sum.inr (Sum.inl ())))
theorem lex_skip_l20_ev (a1 : Int) (s2 : ByteArray) (s10 : Nat × Bool) : OLe (lex_skip_l20_c a1 s2 s10) (lex_skip_l20 a1 s2 s10) := by
  unfold lex_skip_l20_c lex_skip_l20
  exact (OLe.cond (OLe.bind (OLe.cond (OLe.refl _) (OLe.bind (OLe.cond (OLe.refl _) (OLe.cond (OLe.refl _) (OLe.refl _))) (fun j => by cases j with | inl a => exact (OLe.refl _) | inr b => exact (OLe.refl _)))) (fun j => by cases j with | inl a => exact (OLe.refl _) | inr b => exact (OLe.refl _))) (OLe.refl _))
noncomputable def lex_skip_c (a0 : ByteArray) (a1 : Int) : Option Int :=
  Option.bind (sx a0 a1 (a0.size : Int)) fun (s2 : ByteArray) =>
  Option.bind (loopF 1000000 (lex_skip_l20_c a1 s2) (0, false)) fun (r8 : (Unit) ⊕ (Int)) =>
  match r8 with
  | Sum.inl r16 => some (a0.size : Int)
  | Sum.inr v48 => some v48
theorem lex_skip_ev (a0 : ByteArray) (a1 : Int) : OLe (lex_skip_c a0 a1) (lex_skip a0 a1) := by
  unfold lex_skip_c lex_skip
  exact (OLe.bind (OLe.refl _) (fun _ => (OLe.bind (OLe.loop (fun _ => lex_skip_l20_ev _ _ _)) (fun j => by cases j with | inl a => exact (OLe.refl _) | inr b => exact (OLe.refl _)))))
noncomputable def lex_run_l16_c (a0 : ByteArray) (a1 : Int) (a2 : Int → Option Bool) : Int → Option ((Int) ⊕ (Int)) := fun s7 =>
  Option.bind (bif (decide ((IntKind.wrap .i64 (a1 + s7)) < (a0.size : Int))) then
    (Option.bind (bx a0 (IntKind.wrap .i64 (a1 + s7))) fun (c24 : Int) =>
      Option.bind (a2 c24) fun (y27 : Bool) =>
      some y27)
    else
    (some false)) fun (j18 : Bool) =>
  bif j18 then
  (some (Sum.inl (IntKind.wrap .i64 (s7 + 1))))
  else
  (some (Sum.inr s7))
theorem lex_run_l16_ev (a0 : ByteArray) (a1 : Int) {a2 a2' : Int → Option Bool} (ha2 : ∀ x0, OLe (a2 x0) (a2' x0)) (s7 : Int) : OLe (lex_run_l16_c a0 a1 a2 s7) (lex_run_l16 a0 a1 a2' s7) := by
  unfold lex_run_l16_c lex_run_l16
  exact (OLe.bind (OLe.cond (OLe.bind (OLe.refl _) (fun _ => (OLe.bind (ha2 _) (fun _ => (OLe.refl _))))) (OLe.refl _)) (fun _ => (OLe.cond (OLe.refl _) (OLe.refl _))))
noncomputable def lex_run_c (a0 : ByteArray) (a1 : Int) (a2 : Int → Option Bool) : Option Int :=
  Option.bind (loopF 1000000 (lex_run_l16_c a0 a1 a2) 0) fun (r5 : Int) =>
  some r5
theorem lex_run_ev (a0 : ByteArray) (a1 : Int) {a2 a2' : Int → Option Bool} (ha2 : ∀ x0, OLe (a2 x0) (a2' x0)) : OLe (lex_run_c a0 a1 a2) (lex_run a0 a1 a2') := by
  unfold lex_run_c lex_run
  exact (OLe.bind (OLe.loop (fun _ => lex_run_l16_ev _ _ ha2 _)) (fun _ => (OLe.refl _)))
noncomputable def stringslite_HasPrefix_c (a0 : ByteArray) (a1 : ByteArray) : Option Bool :=
  Option.bind (bif (decide ((a0.size : Int) ≥ (a1.size : Int))) then
    (Option.bind (sx a0 0 (a1.size : Int)) fun (s8 : ByteArray) =>
      some (s8.toList == a1.toList))
    else
    (some false)) fun (j1 : Bool) =>
  some j1
theorem stringslite_HasPrefix_ev (a0 : ByteArray) (a1 : ByteArray) : OLe (stringslite_HasPrefix_c a0 a1) (stringslite_HasPrefix a0 a1) := by
  unfold stringslite_HasPrefix_c stringslite_HasPrefix
  exact (OLe.bind (OLe.cond (OLe.bind (OLe.refl _) (fun _ => (OLe.refl _))) (OLe.refl _)) (fun _ => (OLe.refl _)))
noncomputable def strings_HasPrefix_c (a0 : ByteArray) (a1 : ByteArray) : Option Bool :=
  Option.bind (stringslite_HasPrefix_c a0 a1) fun (y1 : Bool) =>
  some y1
theorem strings_HasPrefix_ev (a0 : ByteArray) (a1 : ByteArray) : OLe (strings_HasPrefix_c a0 a1) (strings_HasPrefix a0 a1) := by
  unfold strings_HasPrefix_c strings_HasPrefix
  exact (OLe.bind (stringslite_HasPrefix_ev _ _) (fun _ => (OLe.refl _)))
noncomputable def lex_number_c (a0 : ByteArray) : Option Int :=
  Option.bind (Option.bind (strings_HasPrefix_c a0 (⟨#[48, 120]⟩ : ByteArray)) fun (y6 : Bool) =>
    bif y6 then
    (some true)
    else
    (Option.bind (strings_HasPrefix_c a0 (⟨#[48, 88]⟩ : ByteArray)) fun (y9 : Bool) =>
      some y9)) fun (j1 : Bool) =>
  Option.bind ((bif j1 then
    (Option.bind (lex_run_c a0 2 (fun x0 => some (lex_hex x0))) fun (y18 : Int) =>
      bif (decide (y18 > 0)) then
      (some (Sum.inr (IntKind.wrap .i64 (2 + y18))))
      else
      (some (Sum.inl ())))
    else
    (some (Sum.inl ())) : Option ((Unit) ⊕ (Int)))) fun (j11 : (Unit) ⊕ (Int)) =>
  match j11 with
  | Sum.inl j13 => Option.bind (lex_run_c a0 0 (fun x0 => some (lex_digit x0))) fun (y21 : Int) =>
    Option.bind (bif (decide (y21 < (a0.size : Int))) then
      (Option.bind (bx a0 y21) fun (c29 : Int) =>
        some (c29 == 46))
      else
      (some false)) fun (j23 : Bool) =>
    Option.bind ((bif j23 then
      (Option.bind (lex_run_c a0 (IntKind.wrap .i64 (y21 + 1)) (fun x0 => some (lex_digit x0))) fun (y38 : Int) =>
        bif ((IntKind.wrap .i64 (y21 + y38)) == 0) then
        (some (Sum.inr 0))
        else
        (some (Sum.inl (IntKind.wrap .i64 (y21 + (IntKind.wrap .i64 (1 + y38)))))))
      else
      (some (Sum.inl y21)) : Option ((Int) ⊕ (Int)))) fun (j31 : (Int) ⊕ (Int)) =>
    match j31 with
    | Sum.inl j33 => bif (j33 == 0) then
      (some 0)
      else
      (Option.bind (bif (decide (j33 < (a0.size : Int))) then
          (Option.bind (bx a0 j33) fun (c48 : Int) =>
            bif (c48 == 101) then
            (some true)
            else
            (Option.bind (bx a0 j33) fun (c51 : Int) =>
              some (c51 == 69)))
          else
          (some false)) fun (j42 : Bool) =>
        Option.bind (bif j42 then
          (Option.bind (bif (decide ((IntKind.wrap .i64 (j33 + 1)) < (a0.size : Int))) then
              (Option.bind (bx a0 (IntKind.wrap .i64 (j33 + 1))) fun (c65 : Int) =>
                bif (c65 == 43) then
                (some true)
                else
                (Option.bind (bx a0 (IntKind.wrap .i64 (j33 + 1))) fun (c68 : Int) =>
                  some (c68 == 45)))
              else
              (some false)) fun (j59 : Bool) =>
            Option.bind (bif j59 then
              (some (IntKind.wrap .i64 ((IntKind.wrap .i64 (j33 + 1)) + 1)))
              else
              (some (IntKind.wrap .i64 (j33 + 1)))) fun (j70 : Int) =>
            Option.bind (lex_run_c a0 j70 (fun x0 => some (lex_digit x0))) fun (y76 : Int) =>
            Option.bind (bif (decide (y76 > 0)) then
              (some (IntKind.wrap .i64 (j70 + y76)))
              else
              (some j33)) fun (j78 : Int) =>
            some j78)
          else
          (some j33)) fun (j53 : Int) =>
        some j53)
    | Sum.inr v84 => some v84
  | Sum.inr v85 => some v85
theorem lex_number_ev (a0 : ByteArray) : OLe (lex_number_c a0) (lex_number a0) := by
  unfold lex_number_c lex_number
  exact (OLe.bind (OLe.bind (strings_HasPrefix_ev _ _) (fun _ => (OLe.cond (OLe.refl _) (OLe.bind (strings_HasPrefix_ev _ _) (fun _ => (OLe.refl _)))))) (fun _ => (OLe.bind (OLe.cond (OLe.bind (lex_run_ev _ _ (fun _ => OLe.refl _)) (fun _ => (OLe.cond (OLe.refl _) (OLe.refl _)))) (OLe.refl _)) (fun j => by cases j with | inl a => exact (OLe.bind (lex_run_ev _ _ (fun _ => OLe.refl _)) (fun _ => (OLe.bind (OLe.cond (OLe.bind (OLe.refl _) (fun _ => (OLe.refl _))) (OLe.refl _)) (fun _ => (OLe.bind (OLe.cond (OLe.bind (lex_run_ev _ _ (fun _ => OLe.refl _)) (fun _ => (OLe.cond (OLe.refl _) (OLe.refl _)))) (OLe.refl _)) (fun j => by cases j with | inl a => exact (OLe.cond (OLe.refl _) (OLe.bind (OLe.cond (OLe.bind (OLe.refl _) (fun _ => (OLe.cond (OLe.refl _) (OLe.bind (OLe.refl _) (fun _ => (OLe.refl _)))))) (OLe.refl _)) (fun _ => (OLe.bind (OLe.cond (OLe.bind (OLe.cond (OLe.bind (OLe.refl _) (fun _ => (OLe.cond (OLe.refl _) (OLe.bind (OLe.refl _) (fun _ => (OLe.refl _)))))) (OLe.refl _)) (fun _ => (OLe.bind (OLe.cond (OLe.refl _) (OLe.refl _)) (fun _ => (OLe.bind (lex_run_ev _ _ (fun _ => OLe.refl _)) (fun _ => (OLe.bind (OLe.cond (OLe.refl _) (OLe.refl _)) (fun _ => (OLe.refl _))))))))) (OLe.refl _)) (fun _ => (OLe.refl _)))))) | inr b => exact (OLe.refl _))))))) | inr b => exact (OLe.refl _)))))
noncomputable def lex_times_l16_c (a0 : ByteArray) : (Int × Int) → Option ((Int × Int) ⊕ (Int)) := fun s7 =>
  bif (decide (s7.2 < (a0.size : Int))) then
  (Option.bind (bx a0 s7.2) fun (c19 : Int) =>
    some (Sum.inl ((if 1099511627777 < (IntKind.wrap .i64 ((IntKind.wrap .i64 (s7.1 * 10)) + (IntKind.wrap .i64 (IntKind.wrap .u8 (c19 - 48))))) then 1099511627777 else (IntKind.wrap .i64 ((IntKind.wrap .i64 (s7.1 * 10)) + (IntKind.wrap .i64 (IntKind.wrap .u8 (c19 - 48)))))), (IntKind.wrap .i64 (s7.2 + 1)))))
  else
  (some (Sum.inr s7.1))
theorem lex_times_l16_ev (a0 : ByteArray) (s7 : Int × Int) : OLe (lex_times_l16_c a0 s7) (lex_times_l16 a0 s7) := by
  unfold lex_times_l16_c lex_times_l16
  exact (OLe.cond (OLe.bind (OLe.refl _) (fun _ => (OLe.refl _))) (OLe.refl _))
noncomputable def lex_times_c (a0 : ByteArray) (a1 : Int) : Option Int :=
  Option.bind (loopF 1000000 (lex_times_l16_c a0) (0, 0)) fun (r5 : Int) =>
  Option.bind (quox .i64 1099511627776 a1) fun (q21 : Int) =>
  bif (decide (r5 > (IntKind.wrap .i64 (q21 + 1)))) then
  (some 1099511627777)
  else
  (some (if 1099511627777 < (IntKind.wrap .i64 (r5 * a1)) then 1099511627777 else (IntKind.wrap .i64 (r5 * a1))))
theorem lex_times_ev (a0 : ByteArray) (a1 : Int) : OLe (lex_times_c a0 a1) (lex_times a0 a1) := by
  unfold lex_times_c lex_times
  exact (OLe.bind (OLe.loop (fun _ => lex_times_l16_ev _ _)) (fun _ => (OLe.bind (OLe.refl _) (fun _ => (OLe.cond (OLe.refl _) (OLe.refl _))))))
noncomputable def lex_span_l46_c (a0 : ByteArray) (s7 : Int × Int × Int) (y18 : Int) (y21 : Int) : Int → Option ((Int) ⊕ ((Unit) ⊕ ((Int × Int × Int) ⊕ (Int × Int)))) := fun s36 =>
  bif (decide (s36 < (lex_units.length : Int))) then
  (Option.bind (ix lex_units s36) fun (x49 : S62) =>
    Option.bind (bif (decide (s36 ≥ s7.2.1)) then
      (Option.bind (sx a0 (IntKind.wrap .i64 (s7.1 + y18)) (IntKind.wrap .i64 (s7.1 + (IntKind.wrap .i64 (y18 + y21))))) fun (s66 : ByteArray) =>
        some (s66.toList == x49.f0.toList))
      else
      (some false)) fun (j59 : Bool) =>
    bif j59 then
    (Option.bind (sx a0 s7.1 (IntKind.wrap .i64 (s7.1 + y18))) fun (s69 : ByteArray) =>
      Option.bind (lex_times_c s69 x49.f1) fun (y70 : Int) =>
      some (Sum.inr (Sum.inr (Sum.inl ((IntKind.wrap .i64 (s7.1 + (IntKind.wrap .i64 (y18 + y21)))), (IntKind.wrap .i64 (s36 + 1)), (if 1099511627777 < (IntKind.wrap .i64 (s7.2.2 + y70)) then 1099511627777 else (IntKind.wrap .i64 (s7.2.2 + y70))))))))
    else
    (some (Sum.inl (IntKind.wrap .i64 (s36 + 1)))))
  else
  (some (Sum.inr (Sum.inl ())))
theorem lex_span_l46_ev (a0 : ByteArray) (s7 : Int × Int × Int) (y18 : Int) (y21 : Int) (s36 : Int) : OLe (lex_span_l46_c a0 s7 y18 y21 s36) (lex_span_l46 a0 s7 y18 y21 s36) := by
  unfold lex_span_l46_c lex_span_l46
  exact (OLe.cond (OLe.bind (OLe.refl _) (fun _ => (OLe.bind (OLe.cond (OLe.bind (OLe.refl _) (fun _ => (OLe.refl _))) (OLe.refl _)) (fun _ => (OLe.cond (OLe.bind (OLe.refl _) (fun _ => (OLe.bind (lex_times_ev _ _) (fun _ => (OLe.refl _))))) (OLe.refl _)))))) (OLe.refl _))
noncomputable def lex_span_l16_c (a0 : ByteArray) : (Int × Int × Int) → Option ((Int × Int × Int) ⊕ (Int × Int)) := fun s7 =>
  Option.bind (lex_run_c a0 s7.1 (fun x0 => some (lex_digit x0))) fun (y18 : Int) =>
  bif (y18 == 0) then
  (some (Sum.inr (s7.1, s7.2.2)))
  else
  (Option.bind (lex_run_c a0 (IntKind.wrap .i64 (s7.1 + y18)) (fun x0 => some (lex_span_1 x0))) fun (y21 : Int) =>
    Option.bind (loopF 1000000 (lex_span_l46_c a0 s7 y18 y21) 0) fun (r34 : (Unit) ⊕ ((Int × Int × Int) ⊕ (Int × Int))) =>
    match r34 with
    | Sum.inl r42 => some (Sum.inr (s7.1, s7.2.2))
    | Sum.inr v72 => some v72)
theorem lex_span_l16_ev (a0 : ByteArray) (s7 : Int × Int × Int) : OLe (lex_span_l16_c a0 s7) (lex_span_l16 a0 s7) := by
  unfold lex_span_l16_c lex_span_l16
  exact (OLe.bind (lex_run_ev _ _ (fun _ => OLe.refl _)) (fun _ => (OLe.cond (OLe.refl _) (OLe.bind (lex_run_ev _ _ (fun _ => OLe.refl _)) (fun _ => (OLe.bind (OLe.loop (fun _ => lex_span_l46_ev _ _ _ _ _)) (fun j => by cases j with | inl a => exact (OLe.refl _) | inr b => exact (OLe.refl _))))))))
noncomputable def lex_span_c (a0 : ByteArray) : Option (Int × Int) :=
  Option.bind (loopF 1000000 (lex_span_l16_c a0) (0, 0, 0)) fun (r5 : Int × Int) =>
  some (r5.1, r5.2)
theorem lex_span_ev (a0 : ByteArray) : OLe (lex_span_c a0) (lex_span a0) := by
  unfold lex_span_c lex_span
  exact (OLe.bind (OLe.loop (fun _ => lex_span_l16_ev _ _)) (fun _ => (OLe.refl _)))
noncomputable def utf8_DecodeRuneInString_c (a0 : ByteArray) : Option (Int × Int) := utf8_DecodeRuneInString a0
theorem utf8_DecodeRuneInString_ev (a0 : ByteArray) : OLe (utf8_DecodeRuneInString_c a0) (utf8_DecodeRuneInString a0) := OLe.refl _
noncomputable def strconv_underscoreOK_l61_c (j12 : ByteArray) (j37 : Int × Int × Bool) : (Int × Int) → Option ((Int × Int) ⊕ ((Int) ⊕ (Bool))) := fun s51 =>
  bif (decide (s51.2 < (j12.size : Int))) then
  (Option.bind ((Option.bind (Option.bind (bx j12 s51.2) fun (c75 : Int) =>
        bif (decide (48 ≤ c75)) then
        (Option.bind (bx j12 s51.2) fun (c78 : Int) =>
          bif (decide (c78 ≤ 57)) then
          (some true)
          else
          (bif j37.2.2 then
            (Option.bind (bx j12 s51.2) fun (c82 : Int) =>
              bif (decide (97 ≤ (strconv_lower c82))) then
              (Option.bind (bx j12 s51.2) fun (c85 : Int) =>
                some (decide ((strconv_lower c85) ≤ 102)))
              else
              (some false))
            else
            (some false)))
        else
        (bif j37.2.2 then
          (Option.bind (bx j12 s51.2) fun (c88 : Int) =>
            bif (decide (97 ≤ (strconv_lower c88))) then
            (Option.bind (bx j12 s51.2) fun (c91 : Int) =>
              some (decide ((strconv_lower c91) ≤ 102)))
            else
            (some false))
          else
          (some false))) fun (j70 : Bool) =>
      bif j70 then
      (some (Sum.inl 48))
      else
      (Option.bind (bx j12 s51.2) fun (c94 : Int) =>
        bif (c94 == 95) then
        (bif (s51.1 != 48) then
          (some (Sum.inr (Sum.inr (Sum.inr false))))
          else
          (some (Sum.inl 95)))
        else
        (bif (s51.1 == 95) then
          (some (Sum.inr (Sum.inr (Sum.inr false))))
          else
          (some (Sum.inl 33)))) : Option ((Int) ⊕ ((Int × Int) ⊕ ((Int) ⊕ (Bool)))))) fun (j64 : (Int) ⊕ ((Int × Int) ⊕ ((Int) ⊕ (Bool)))) =>
    match j64 with
    | Sum.inl j66 => some (Sum.inl (j66, (IntKind.wrap .i64 (s51.2 + 1))))
    | Sum.inr v99 => some v99)
  else
  (some (Sum.inr (Sum.inl s51.1)))
theorem strconv_underscoreOK_l61_ev (j12 : ByteArray) (j37 : Int × Int × Bool) (s51 : Int × Int) : OLe (strconv_underscoreOK_l61_c j12 j37 s51) (strconv_underscoreOK_l61 j12 j37 s51) := by
  unfold strconv_underscoreOK_l61_c strconv_underscoreOK_l61
  exact (OLe.cond (OLe.bind (OLe.bind (OLe.bind (OLe.refl _) (fun _ => (OLe.cond (OLe.bind (OLe.refl _) (fun _ => (OLe.cond (OLe.refl _) (OLe.cond (OLe.bind (OLe.refl _) (fun _ => (OLe.cond (OLe.bind (OLe.refl _) (fun _ => (OLe.refl _))) (OLe.refl _)))) (OLe.refl _))))) (OLe.cond (OLe.bind (OLe.refl _) (fun _ => (OLe.cond (OLe.bind (OLe.refl _) (fun _ => (OLe.refl _))) (OLe.refl _)))) (OLe.refl _))))) (fun _ => (OLe.cond (OLe.refl _) (OLe.bind (OLe.refl _) (fun _ => (OLe.cond (OLe.cond (OLe.refl _) (OLe.refl _)) (OLe.cond (OLe.refl _) (OLe.refl _)))))))) (fun j => by cases j with | inl a => exact (OLe.refl _) | inr b => exact (OLe.refl _))) (OLe.refl _))
noncomputable def strconv_underscoreOK_c (a0 : ByteArray) : Option Bool :=
  Option.bind (bif (decide ((a0.size : Int) ≥ 1)) then
    (Option.bind (bx a0 0) fun (c7 : Int) =>
      bif (c7 == 45) then
      (some true)
      else
      (Option.bind (bx a0 0) fun (c10 : Int) =>
        some (c10 == 43)))
    else
    (some false)) fun (j1 : Bool) =>
  Option.bind (bif j1 then
    (Option.bind (sx a0 1 (a0.size : Int)) fun (s19 : ByteArray) =>
      some s19)
    else
    (some a0)) fun (j12 : ByteArray) =>
  Option.bind (bif (decide ((j12.size : Int) ≥ 2)) then
    (Option.bind (bx j12 0) fun (c26 : Int) =>
      bif (c26 == 48) then
      (Option.bind (bx j12 1) fun (c29 : Int) =>
        bif ((strconv_lower c29) == 98) then
        (some true)
        else
        (Option.bind (bx j12 1) fun (c32 : Int) =>
          bif ((strconv_lower c32) == 111) then
          (some true)
          else
          (Option.bind (bx j12 1) fun (c35 : Int) =>
            some ((strconv_lower c35) == 120))))
      else
      (some false))
    else
    (some false)) fun (j20 : Bool) =>
  Option.bind (bif j20 then
    (Option.bind (bx j12 1) fun (c43 : Int) =>
      some (48, 2, ((strconv_lower c43) == 120)))
    else
    (some (94, 0, false))) fun (j37 : Int × Int × Bool) =>
  Option.bind (loopF 1000000 (strconv_underscoreOK_l61_c j12 j37) (j37.1, j37.2.1)) fun (r49 : (Int) ⊕ (Bool)) =>
  match r49 with
  | Sum.inl r57 => some (r57 != 95)
  | Sum.inr v100 => some v100
theorem strconv_underscoreOK_ev (a0 : ByteArray) : OLe (strconv_underscoreOK_c a0) (strconv_underscoreOK a0) := by
  unfold strconv_underscoreOK_c strconv_underscoreOK
  exact (OLe.bind (OLe.cond (OLe.bind (OLe.refl _) (fun _ => (OLe.cond (OLe.refl _) (OLe.bind (OLe.refl _) (fun _ => (OLe.refl _)))))) (OLe.refl _)) (fun _ => (OLe.bind (OLe.cond (OLe.bind (OLe.refl _) (fun _ => (OLe.refl _))) (OLe.refl _)) (fun _ => (OLe.bind (OLe.cond (OLe.bind (OLe.refl _) (fun _ => (OLe.cond (OLe.bind (OLe.refl _) (fun _ => (OLe.cond (OLe.refl _) (OLe.bind (OLe.refl _) (fun _ => (OLe.cond (OLe.refl _) (OLe.bind (OLe.refl _) (fun _ => (OLe.refl _))))))))) (OLe.refl _)))) (OLe.refl _)) (fun _ => (OLe.bind (OLe.cond (OLe.bind (OLe.refl _) (fun _ => (OLe.refl _))) (OLe.refl _)) (fun _ => (OLe.bind (OLe.loop (fun _ => strconv_underscoreOK_l61_ev _ _ _)) (fun j => by cases j with | inl a => exact (OLe.refl _) | inr b => exact (OLe.refl _)))))))))))
noncomputable def strconv_ParseUint_f72_l123_c (a1 : Int) (j8 : ByteArray × Int) (j86 : Int) (q100 : Int) (l102 : List Int) : (Bool × Int × Int) → Option ((Bool × Int × Int) ⊕ (Bool × Int)) := fun s114 =>
  bif (decide (s114.2.2 < (l102.length : Int))) then
  (Option.bind (Option.bind (ix l102 s114.2.2) fun (x131 : Int) =>
      bif ((x131 == 95) && (a1 == 0)) then
      (some (true, s114.2.1))
      else
      (Option.bind (bif ((decide (48 ≤ x131)) && (decide (x131 ≤ 57))) then
          (some (IntKind.wrap .u8 (x131 - 48)))
          else
          (bif ((decide (97 ≤ (strconv_lower x131))) && (decide ((strconv_lower x131) ≤ 122))) then
            (some (IntKind.wrap .u8 ((IntKind.wrap .u8 ((strconv_lower x131) - 97)) + 10)))
            else
            (none))) fun (j151 : Int) =>
        bif (decide (j151 ≥ (IntKind.wrap .u8 j8.2))) then
        (none)
        else
        (bif (decide (s114.2.1 ≥ j86)) then
          (none)
          else
          (bif ((decide ((IntKind.wrap .u64 ((IntKind.wrap .u64 (s114.2.1 * (IntKind.wrap .u64 j8.2))) + (IntKind.wrap .u64 j151))) < (IntKind.wrap .u64 (s114.2.1 * (IntKind.wrap .u64 j8.2))))) || (decide ((IntKind.wrap .u64 ((IntKind.wrap .u64 (s114.2.1 * (IntKind.wrap .u64 j8.2))) + (IntKind.wrap .u64 j151))) > (IntKind.wrap .u64 (q100 - 1))))) then
            (none)
            else
            (some (s114.1, (IntKind.wrap .u64 ((IntKind.wrap .u64 (s114.2.1 * (IntKind.wrap .u64 j8.2))) + (IntKind.wrap .u64 j151))))))))) fun (j126 : Bool × Int) =>
    some (Sum.inl (j126.1, j126.2, (IntKind.wrap .i64 (s114.2.2 + 1)))))
  else
  (some (Sum.inr (s114.1, s114.2.1)))
theorem strconv_ParseUint_f72_l123_ev (a1 : Int) (j8 : ByteArray × Int) (j86 : Int) (q100 : Int) (l102 : List Int) (s114 : Bool × Int × Int) : OLe (strconv_ParseUint_f72_l123_c a1 j8 j86 q100 l102 s114) (strconv_ParseUint_f72_l123 a1 j8 j86 q100 l102 s114) := by
  unfold strconv_ParseUint_f72_l123_c strconv_ParseUint_f72_l123
  exact (OLe.cond (OLe.bind (OLe.bind (OLe.refl _) (fun _ => (OLe.cond (OLe.refl _) (OLe.bind (OLe.cond (OLe.refl _) (OLe.cond (OLe.refl _) (OLe.refl _))) (fun _ => (OLe.cond (OLe.refl _) (OLe.cond (OLe.refl _) (OLe.cond (OLe.refl _) (OLe.refl _))))))))) (fun _ => (OLe.refl _))) (OLe.refl _))
noncomputable def strconv_ParseUint_f72_c (a0 : ByteArray) (a1 : Int) (a2 : Int) : Option (Int × Unit) :=
  bif (a0.toList == (⟨#[]⟩ : ByteArray).toList) then
  (none)
  else
  (Option.bind (bif ((decide (2 ≤ a1)) && (decide (a1 ≤ 36))) then
      (some (a0, a1))
      else
      (bif (a1 == 0) then
        (Option.bind (bx a0 0) fun (c15 : Int) =>
          Option.bind (bif (c15 == 48) then
            (Option.bind (bif (decide ((a0.size : Int) ≥ 3)) then
                (Option.bind (bx a0 1) fun (c29 : Int) =>
                  some ((strconv_lower c29) == 98))
                else
                (some false)) fun (j23 : Bool) =>
              Option.bind (bif j23 then
                (Option.bind (sx a0 2 (a0.size : Int)) fun (s38 : ByteArray) =>
                  some (s38, 2))
                else
                (Option.bind (bif (decide ((a0.size : Int) ≥ 3)) then
                    (Option.bind (bx a0 1) fun (c45 : Int) =>
                      some ((strconv_lower c45) == 111))
                    else
                    (some false)) fun (j39 : Bool) =>
                  Option.bind (bif j39 then
                    (Option.bind (sx a0 2 (a0.size : Int)) fun (s54 : ByteArray) =>
                      some (s54, 8))
                    else
                    (Option.bind (bif (decide ((a0.size : Int) ≥ 3)) then
                        (Option.bind (bx a0 1) fun (c61 : Int) =>
                          some ((strconv_lower c61) == 120))
                        else
                        (some false)) fun (j55 : Bool) =>
                      Option.bind (bif j55 then
                        (Option.bind (sx a0 2 (a0.size : Int)) fun (s70 : ByteArray) =>
                          some (s70, 16))
                        else
                        (Option.bind (sx a0 1 (a0.size : Int)) fun (s72 : ByteArray) =>
                          some (s72, 8))) fun (j63 : ByteArray × Int) =>
                      some (j63.1, j63.2))) fun (j47 : ByteArray × Int) =>
                  some (j47.1, j47.2))) fun (j31 : ByteArray × Int) =>
              some (j31.1, j31.2))
            else
            (some (a0, 10))) fun (j17 : ByteArray × Int) =>
          some (j17.1, j17.2))
        else
        (none))) fun (j8 : ByteArray × Int) =>
    Option.bind (bif (a2 == 0) then
      (some 64)
      else
      (bif ((decide (a2 < 0)) || (decide (a2 > 64))) then
        (none)
        else
        (some a2))) fun (j73 : Int) =>
    Option.bind (bif (j8.2 == 10) then
      (some 1844674407370955162)
      else
      (Option.bind (bif (j8.2 == 16) then
          (some 1152921504606846976)
          else
          (Option.bind (quox .u64 18446744073709551615 (IntKind.wrap .u64 j8.2)) fun (q98 : Int) =>
            some (IntKind.wrap .u64 (q98 + 1)))) fun (j92 : Int) =>
        some j92)) fun (j86 : Int) =>
    Option.bind (shlx .u64 1 (IntKind.wrap .u64 j73)) fun (q100 : Int) =>
    Option.bind (sb j8.1) fun (l102 : List Int) =>
    Option.bind (loopF 1000000 (strconv_ParseUint_f72_l123_c a1 j8 j86 q100 l102) (false, 0, 0)) fun (r112 : Bool × Int) =>
    Option.bind (bif r112.1 then
      (Option.bind (strconv_underscoreOK_c a0) fun (y179 : Bool) =>
        some (!y179))
      else
      (some false)) fun (j173 : Bool) =>
    bif j173 then
    (none)
    else
    (some (r112.2, ())))
theorem strconv_ParseUint_f72_ev (a0 : ByteArray) (a1 : Int) (a2 : Int) : OLe (strconv_ParseUint_f72_c a0 a1 a2) (strconv_ParseUint_f72 a0 a1 a2) := by
  unfold strconv_ParseUint_f72_c strconv_ParseUint_f72
  exact (OLe.cond (OLe.refl _) (OLe.bind (OLe.cond (OLe.refl _) (OLe.cond (OLe.bind (OLe.refl _) (fun _ => (OLe.bind (OLe.cond (OLe.bind (OLe.cond (OLe.bind (OLe.refl _) (fun _ => (OLe.refl _))) (OLe.refl _)) (fun _ => (OLe.bind (OLe.cond (OLe.bind (OLe.refl _) (fun _ => (OLe.refl _))) (OLe.bind (OLe.cond (OLe.bind (OLe.refl _) (fun _ => (OLe.refl _))) (OLe.refl _)) (fun _ => (OLe.bind (OLe.cond (OLe.bind (OLe.refl _) (fun _ => (OLe.refl _))) (OLe.bind (OLe.cond (OLe.bind (OLe.refl _) (fun _ => (OLe.refl _))) (OLe.refl _)) (fun _ => (OLe.bind (OLe.cond (OLe.bind (OLe.refl _) (fun _ => (OLe.refl _))) (OLe.bind (OLe.refl _) (fun _ => (OLe.refl _)))) (fun _ => (OLe.refl _)))))) (fun _ => (OLe.refl _)))))) (fun _ => (OLe.refl _))))) (OLe.refl _)) (fun _ => (OLe.refl _))))) (OLe.refl _))) (fun _ => (OLe.bind (OLe.cond (OLe.refl _) (OLe.cond (OLe.refl _) (OLe.refl _))) (fun _ => (OLe.bind (OLe.cond (OLe.refl _) (OLe.bind (OLe.cond (OLe.refl _) (OLe.bind (OLe.refl _) (fun _ => (OLe.refl _)))) (fun _ => (OLe.refl _)))) (fun _ => (OLe.bind (OLe.refl _) (fun _ => (OLe.bind (OLe.refl _) (fun _ => (OLe.bind (OLe.loop (fun _ => strconv_ParseUint_f72_l123_ev _ _ _ _ _ _)) (fun _ => (OLe.bind (OLe.cond (OLe.bind (strconv_underscoreOK_ev _) (fun _ => (OLe.refl _))) (OLe.refl _)) (fun _ => (OLe.cond (OLe.refl _) (OLe.refl _)))))))))))))))))
noncomputable def strconv_ParseUint_c (a0 : ByteArray) (a1 : Int) (a2 : Int) : Option (Int × Unit) :=
  Option.bind (strconv_ParseUint_f72_c a0 a1 a2) fun (y1 : Int × Unit) =>
  some (y1.1, ())
theorem strconv_ParseUint_ev (a0 : ByteArray) (a1 : Int) (a2 : Int) : OLe (strconv_ParseUint_c a0 a1 a2) (strconv_ParseUint a0 a1 a2) := by
  unfold strconv_ParseUint_c strconv_ParseUint
  exact (OLe.bind (strconv_ParseUint_f72_ev _ _ _) (fun _ => (OLe.refl _)))
noncomputable def lex_escape_c (a0 : ByteArray) : Option (Int × Int) :=
  bif (a0.toList == (⟨#[]⟩ : ByteArray).toList) then
  (some (0, 0))
  else
  (Option.bind (bx a0 0) fun (c2 : Int) =>
    Option.bind ((Option.bind ((bif (c2 == 110) then
        (some (Sum.inl 10))
        else
        (Option.bind (bif (c2 == 92) then
            (some (c2 == 92))
            else
            (Option.bind (bif (c2 == 34) then
                (some (c2 == 34))
                else
                (some (c2 == 39))) fun (j23 : Bool) =>
              some j23)) fun (j17 : Bool) =>
          bif j17 then
          (some (Sum.inl c2))
          else
          (bif (c2 == 116) then
            (some (Sum.inr (Sum.inr (9, 1))))
            else
            (bif (c2 == 114) then
              (some (Sum.inr (Sum.inr (13, 1))))
              else
              (bif (c2 == 120) then
                (Option.bind ((Option.bind (bif (decide ((a0.size : Int) > 2)) then
                      (Option.bind (bx a0 1) fun (c39 : Int) =>
                        bif (lex_hex c39) then
                        (Option.bind (bx a0 2) fun (c42 : Int) =>
                          some (lex_hex c42))
                        else
                        (some false))
                      else
                      (some false)) fun (j33 : Bool) =>
                    Option.bind ((bif j33 then
                      (Option.bind (sx a0 1 3) fun (s52 : ByteArray) =>
                        Option.bind (strconv_ParseUint_c s52 16 8) fun (y53 : Int × Unit) =>
                        bif (decide (y53.1 < 128)) then
                        (some (Sum.inr (Sum.inr ((IntKind.wrap .u8 y53.1), 3))))
                        else
                        (some (Sum.inl ())))
                      else
                      (some (Sum.inl ())) : Option ((Unit) ⊕ ((Unit) ⊕ (Int × Int))))) fun (j44 : (Unit) ⊕ ((Unit) ⊕ (Int × Int))) =>
                    match j44 with
                    | Sum.inl j46 => some (Sum.inl ())
                    | Sum.inr v56 => some v56 : Option ((Unit) ⊕ (Int × Int)))) fun (v57 : (Unit) ⊕ (Int × Int)) =>
                  some (Sum.inr v57))
                else
                (some (Sum.inr (Sum.inl ()))))))) : Option ((Int) ⊕ ((Unit) ⊕ (Int × Int))))) fun (j10 : (Int) ⊕ ((Unit) ⊕ (Int × Int))) =>
      match j10 with
      | Sum.inl j12 => some (Sum.inr (j12, 1))
      | Sum.inr v60 => some v60 : Option ((Unit) ⊕ (Int × Int)))) fun (j4 : (Unit) ⊕ (Int × Int)) =>
    match j4 with
    | Sum.inl j6 => some (0, 0)
    | Sum.inr v61 => some v61)
theorem lex_escape_ev (a0 : ByteArray) : OLe (lex_escape_c a0) (lex_escape a0) := by
  unfold lex_escape_c lex_escape
  exact (OLe.cond (OLe.refl _) (OLe.bind (OLe.refl _) (fun _ => (OLe.bind (OLe.bind (OLe.cond (OLe.refl _) (OLe.bind (OLe.cond (OLe.refl _) (OLe.bind (OLe.cond (OLe.refl _) (OLe.refl _)) (fun _ => (OLe.refl _)))) (fun _ => (OLe.cond (OLe.refl _) (OLe.cond (OLe.refl _) (OLe.cond (OLe.refl _) (OLe.cond (OLe.bind (OLe.bind (OLe.cond (OLe.bind (OLe.refl _) (fun _ => (OLe.cond (OLe.bind (OLe.refl _) (fun _ => (OLe.refl _))) (OLe.refl _)))) (OLe.refl _)) (fun _ => (OLe.bind (OLe.cond (OLe.bind (OLe.refl _) (fun _ => (OLe.bind (strconv_ParseUint_ev _ _ _) (fun _ => (OLe.cond (OLe.refl _) (OLe.refl _)))))) (OLe.refl _)) (fun j => by cases j with | inl a => exact (OLe.refl _) | inr b => exact (OLe.refl _))))) (fun _ => (OLe.refl _))) (OLe.refl _)))))))) (fun j => by cases j with | inl a => exact (OLe.refl _) | inr b => exact (OLe.refl _))) (fun j => by cases j with | inl a => exact (OLe.refl _) | inr b => exact (OLe.refl _))))))
noncomputable def strings_Builder_WriteByte_c (a0 : S50) (a1 : Int) : Option (Unit × S50) :=
  Option.bind (app ((strings_Builder_copyCheck (⟨a0.f1⟩ : S50)).f1) [a1]) fun (zs14 : List Int) =>
  some ((), (⟨zs14⟩ : S50))
theorem strings_Builder_WriteByte_ev (a0 : S50) (a1 : Int) : OLe (strings_Builder_WriteByte_c a0 a1) (strings_Builder_WriteByte a0 a1) := by
  unfold strings_Builder_WriteByte_c strings_Builder_WriteByte
  exact (OLe.bind (OLe.refl _) (fun _ => (OLe.refl _)))
noncomputable def utf8_appendRuneNonASCII_f79_c (a0 : List Int) (a1 : Int) : Option (List Int) :=
  bif (decide ((IntKind.wrap .u32 a1) ≤ 2047)) then
  (Option.bind (app a0 [(bitOr .u8 192 (IntKind.wrap .u8 (shr .i32 a1 6))), (bitOr .u8 128 (bitAnd .u8 (IntKind.wrap .u8 a1) 63))]) fun (zs6 : List Int) =>
    some zs6)
  else
  (Option.bind (bif (decide ((IntKind.wrap .u32 a1) < 55296)) then
      (some (decide ((IntKind.wrap .u32 a1) < 55296)))
      else
      (some ((decide (57343 < (IntKind.wrap .u32 a1))) && (decide ((IntKind.wrap .u32 a1) ≤ 65535))))) fun (j12 : Bool) =>
    bif j12 then
    (Option.bind (app a0 [(bitOr .u8 224 (IntKind.wrap .u8 (shr .i32 a1 12))), (bitOr .u8 128 (bitAnd .u8 (IntKind.wrap .u8 (shr .i32 a1 6)) 63)), (bitOr .u8 128 (bitAnd .u8 (IntKind.wrap .u8 a1) 63))]) fun (zs29 : List Int) =>
      some zs29)
    else
    (bif ((decide ((IntKind.wrap .u32 a1) > 65535)) && (decide ((IntKind.wrap .u32 a1) ≤ 1114111))) then
      (Option.bind (app a0 [(bitOr .u8 240 (IntKind.wrap .u8 (shr .i32 a1 18))), (bitOr .u8 128 (bitAnd .u8 (IntKind.wrap .u8 (shr .i32 a1 12)) 63)), (bitOr .u8 128 (bitAnd .u8 (IntKind.wrap .u8 (shr .i32 a1 6)) 63)), (bitOr .u8 128 (bitAnd .u8 (IntKind.wrap .u8 a1) 63))]) fun (zs46 : List Int) =>
        some zs46)
      else
      (Option.bind (app a0 [239, 191, 189]) fun (zs56 : List Int) =>
        some zs56)))
theorem utf8_appendRuneNonASCII_f79_ev (a0 : List Int) (a1 : Int) : OLe (utf8_appendRuneNonASCII_f79_c a0 a1) (utf8_appendRuneNonASCII_f79 a0 a1) := by
  unfold utf8_appendRuneNonASCII_f79_c utf8_appendRuneNonASCII_f79
  exact (OLe.cond (OLe.bind (OLe.refl _) (fun _ => (OLe.refl _))) (OLe.bind (OLe.cond (OLe.refl _) (OLe.refl _)) (fun _ => (OLe.cond (OLe.bind (OLe.refl _) (fun _ => (OLe.refl _))) (OLe.cond (OLe.bind (OLe.refl _) (fun _ => (OLe.refl _))) (OLe.bind (OLe.refl _) (fun _ => (OLe.refl _))))))))
noncomputable def utf8_AppendRune_f71_c (a0 : List Int) (a1 : Int) : Option (List Int) :=
  bif (decide ((IntKind.wrap .u32 a1) ≤ 127)) then
  (Option.bind (app a0 [(IntKind.wrap .u8 a1)]) fun (zs6 : List Int) =>
    some zs6)
  else
  (Option.bind (utf8_appendRuneNonASCII_f79_c a0 a1) fun (y12 : (List Int)) =>
    some y12)
theorem utf8_AppendRune_f71_ev (a0 : List Int) (a1 : Int) : OLe (utf8_AppendRune_f71_c a0 a1) (utf8_AppendRune_f71 a0 a1) := by
  unfold utf8_AppendRune_f71_c utf8_AppendRune_f71
  exact (OLe.cond (OLe.bind (OLe.refl _) (fun _ => (OLe.refl _))) (OLe.bind (utf8_appendRuneNonASCII_f79_ev _ _) (fun _ => (OLe.refl _))))
noncomputable def strings_Builder_WriteRune_c (a0 : S50) (a1 : Int) : Option (Int × Unit × S50) :=
  Option.bind (utf8_AppendRune_f71_c ((strings_Builder_copyCheck (⟨a0.f1⟩ : S50)).f1) a1) fun (y10 : (List Int)) =>
  some ((IntKind.wrap .i64 ((y10.length : Int) - (((strings_Builder_copyCheck (⟨a0.f1⟩ : S50)).f1).length : Int))), (), (⟨y10⟩ : S50))
theorem strings_Builder_WriteRune_ev (a0 : S50) (a1 : Int) : OLe (strings_Builder_WriteRune_c a0 a1) (strings_Builder_WriteRune a0 a1) := by
  unfold strings_Builder_WriteRune_c strings_Builder_WriteRune
  exact (OLe.bind (utf8_AppendRune_f71_ev _ _) (fun _ => (OLe.refl _)))
noncomputable def lex_quoted_l32_c (a0 : ByteArray) (c2 : Int) : (Unit × (List Int) × Int) → Option ((Unit × (List Int) × Int) ⊕ ((Unit) ⊕ (ByteArray × Int))) := fun s16 =>
  bif (decide (s16.2.2 < (a0.size : Int))) then
  (Option.bind (sx a0 s16.2.2 (a0.size : Int)) fun (s36 : ByteArray) =>
    Option.bind (utf8_DecodeRuneInString_c s36) fun (y37 : Int × Int) =>
    bif (y37.1 == (IntKind.wrap .i32 c2)) then
    (Option.bind (strings_Builder_String (⟨s16.2.1⟩ : S50)) fun (y40 : ByteArray) =>
      some (Sum.inr (Sum.inr (y40, (IntKind.wrap .i64 (s16.2.2 + 1))))))
    else
    (Option.bind (bif ((y37.1 == 65533) && (y37.2 == 1)) then
        (some ((y37.1 == 65533) && (y37.2 == 1)))
        else
        (some (y37.1 == 10))) fun (j51 : Bool) =>
      bif j51 then
      (some (Sum.inr (Sum.inr ((⟨#[]⟩ : ByteArray), 0))))
      else
      (Option.bind ((bif (y37.1 == 92) then
          (Option.bind (sx a0 (IntKind.wrap .i64 (s16.2.2 + 1)) (a0.size : Int)) fun (s72 : ByteArray) =>
            Option.bind (lex_escape_c s72) fun (y73 : Int × Int) =>
            bif (y73.2 == 0) then
            (some (Sum.inr (Sum.inr (Sum.inr ((⟨#[]⟩ : ByteArray), 0)))))
            else
            (Option.bind (strings_Builder_WriteByte_c (⟨s16.2.1⟩ : S50) y73.1) fun (y76 : Unit × S50) =>
              some (Sum.inl ((IntKind.wrap .i64 (s16.2.2 + (IntKind.wrap .i64 (1 + y73.2)))), (), y76.2.f1))))
          else
          (Option.bind (strings_Builder_WriteRune_c (⟨s16.2.1⟩ : S50) y37.1) fun (y87 : Int × Unit × S50) =>
            some (Sum.inl ((IntKind.wrap .i64 (s16.2.2 + y37.2)), (), y87.2.2.f1))) : Option ((Int × Unit × (List Int)) ⊕ ((Unit × (List Int) × Int) ⊕ ((Unit) ⊕ (ByteArray × Int)))))) fun (j58 : (Int × Unit × (List Int)) ⊕ ((Unit × (List Int) × Int) ⊕ ((Unit) ⊕ (ByteArray × Int)))) =>
        match j58 with
        | Sum.inl j60 => some (Sum.inl ((), j60.2.2, j60.1))
        | Sum.inr v98 => some v98)))
  else
  (some (Sum.inr (Sum.inl ())))
theorem lex_quoted_l32_ev (a0 : ByteArray) (c2 : Int) (s16 : Unit × (List Int) × Int) : OLe (lex_quoted_l32_c a0 c2 s16) (lex_quoted_l32 a0 c2 s16) := by
  unfold lex_quoted_l32_c lex_quoted_l32
  exact (OLe.cond (OLe.bind (OLe.refl _) (fun _ => (OLe.bind (utf8_DecodeRuneInString_ev _) (fun _ => (OLe.cond (OLe.bind (OLe.refl _) (fun _ => (OLe.refl _))) (OLe.bind (OLe.cond (OLe.refl _) (OLe.refl _)) (fun _ => (OLe.cond (OLe.refl _) (OLe.bind (OLe.cond (OLe.bind (OLe.refl _) (fun _ => (OLe.bind (lex_escape_ev _) (fun _ => (OLe.cond (OLe.refl _) (OLe.bind (strings_Builder_WriteByte_ev _ _) (fun _ => (OLe.refl _)))))))) (OLe.bind (strings_Builder_WriteRune_ev _ _) (fun _ => (OLe.refl _)))) (fun j => by cases j with | inl a => exact (OLe.refl _) | inr b => exact (OLe.refl _))))))))))) (OLe.refl _))
noncomputable def lex_quoted_c (a0 : ByteArray) : Option (ByteArray × Int) :=
  Option.bind (bx a0 0) fun (c2 : Int) =>
  Option.bind (loopF 1000000 (lex_quoted_l32_c a0 c2) ((), [], 1)) fun (r14 : (Unit) ⊕ (ByteArray × Int)) =>
  match r14 with
  | Sum.inl r28 => some ((⟨#[]⟩ : ByteArray), 0)
  | Sum.inr v99 => some v99
theorem lex_quoted_ev (a0 : ByteArray) : OLe (lex_quoted_c a0) (lex_quoted a0) := by
  unfold lex_quoted_c lex_quoted
  exact (OLe.bind (OLe.refl _) (fun _ => (OLe.bind (OLe.loop (fun _ => lex_quoted_l32_ev _ _ _)) (fun j => by cases j with | inl a => exact (OLe.refl _) | inr b => exact (OLe.refl _)))))
noncomputable def lex_one_l89_c (a0 : ByteArray) : Int → Option ((Int) ⊕ ((Unit) ⊕ (S27 × Int))) := fun s79 =>
  bif (decide (s79 < (lex_signs.length : Int))) then
  (Option.bind (ix lex_signs s79) fun (x92 : ByteArray) =>
    Option.bind (strings_HasPrefix_c a0 x92) fun (y101 : Bool) =>
    bif y101 then
    (some (Sum.inr (Sum.inr ((⟨5, x92, 0⟩ : S27), (x92.size : Int)))))
    else
    (some (Sum.inl (IntKind.wrap .i64 (s79 + 1)))))
  else
  (some (Sum.inr (Sum.inl ())))
theorem lex_one_l89_ev (a0 : ByteArray) (s79 : Int) : OLe (lex_one_l89_c a0 s79) (lex_one_l89 a0 s79) := by
  unfold lex_one_l89_c lex_one_l89
  exact (OLe.cond (OLe.bind (OLe.refl _) (fun _ => (OLe.bind (strings_HasPrefix_ev _ _) (fun _ => (OLe.cond (OLe.refl _) (OLe.refl _)))))) (OLe.refl _))
noncomputable def lex_one_c (a0 : ByteArray) : Option (S27 × Int) :=
  Option.bind (bx a0 0) fun (c2 : Int) =>
  bif (lex_letter c2) then
  (Option.bind (lex_run_c a0 0 (fun x0 => some (lex_one_1 x0))) fun (y5 : Int) =>
    Option.bind (sx a0 0 y5) fun (s8 : ByteArray) =>
    some ((⟨1, s8, 0⟩ : S27), y5))
  else
  (bif ((lex_digit c2) || (c2 == 46)) then
    (Option.bind (lex_number_c a0) fun (y20 : Int) =>
      Option.bind (lex_span_c a0) fun (y22 : Int × Int) =>
      Option.bind (bif (decide (y22.1 > y20)) then
        (some (3, y22.1))
        else
        (some (2, y20))) fun (j24 : Int × Int) =>
      Option.bind (bif (decide (j24.2 < (a0.size : Int))) then
        (Option.bind (bx a0 j24.2) fun (c36 : Int) =>
          bif (lex_letter c36) then
          (some true)
          else
          (Option.bind (bx a0 j24.2) fun (c39 : Int) =>
            bif (lex_digit c39) then
            (some true)
            else
            (Option.bind (bx a0 j24.2) fun (c42 : Int) =>
              some (c42 == 46))))
        else
        (some false)) fun (j30 : Bool) =>
      bif j30 then
      (some ((⟨0, (⟨#[]⟩ : ByteArray), 0⟩ : S27), 0))
      else
      (Option.bind (sx a0 0 j24.2) fun (s50 : ByteArray) =>
        some ((⟨j24.1, s50, 0⟩ : S27), j24.2)))
    else
    (bif ((c2 == 34) || (c2 == 39)) then
      (Option.bind (lex_quoted_c a0) fun (y60 : ByteArray × Int) =>
        some ((⟨4, y60.1, 0⟩ : S27), y60.2))
      else
      (Option.bind (loopF 1000000 (lex_one_l89_c a0) 0) fun (r77 : (Unit) ⊕ (S27 × Int)) =>
        match r77 with
        | Sum.inl r85 => some ((⟨0, (⟨#[]⟩ : ByteArray), 0⟩ : S27), 0)
        | Sum.inr v112 => some v112)))
theorem lex_one_ev (a0 : ByteArray) : OLe (lex_one_c a0) (lex_one a0) := by
  unfold lex_one_c lex_one
  exact (OLe.bind (OLe.refl _) (fun _ => (OLe.cond (OLe.bind (lex_run_ev _ _ (fun _ => OLe.refl _)) (fun _ => (OLe.bind (OLe.refl _) (fun _ => (OLe.refl _))))) (OLe.cond (OLe.bind (lex_number_ev _) (fun _ => (OLe.bind (lex_span_ev _) (fun _ => (OLe.bind (OLe.cond (OLe.refl _) (OLe.refl _)) (fun _ => (OLe.bind (OLe.cond (OLe.bind (OLe.refl _) (fun _ => (OLe.cond (OLe.refl _) (OLe.bind (OLe.refl _) (fun _ => (OLe.cond (OLe.refl _) (OLe.bind (OLe.refl _) (fun _ => (OLe.refl _))))))))) (OLe.refl _)) (fun _ => (OLe.cond (OLe.refl _) (OLe.bind (OLe.refl _) (fun _ => (OLe.refl _)))))))))))) (OLe.cond (OLe.bind (lex_quoted_ev _) (fun _ => (OLe.refl _))) (OLe.bind (OLe.loop (fun _ => lex_one_l89_ev _ _)) (fun j => by cases j with | inl a => exact (OLe.refl _) | inr b => exact (OLe.refl _))))))))
noncomputable def lex_Tokens_l32_c (a0 : ByteArray) : ((List S27) × Int) → Option (((List S27) × Int) ⊕ (((List S27)) ⊕ ((List S27) × Int × Int))) := fun s14 =>
  bif (decide (s14.2 < (a0.size : Int))) then
  (Option.bind (sx a0 s14.2 (a0.size : Int)) fun (s36 : ByteArray) =>
    Option.bind (lex_one_c s36) fun (y37 : S27 × Int) =>
    bif (y37.2 == 0) then
    (some (Sum.inr (Sum.inr ([], 130, s14.2))))
    else
    (Option.bind (app s14.1 [(⟨y37.1.f0, y37.1.f1, s14.2⟩ : S27)]) fun (zs45 : List S27) =>
      Option.bind (lex_skip_c a0 (IntKind.wrap .i64 (s14.2 + y37.2))) fun (y51 : Int) =>
      some (Sum.inl (zs45, y51))))
  else
  (some (Sum.inr (Sum.inl s14.1)))
theorem lex_Tokens_l32_ev (a0 : ByteArray) (s14 : (List S27) × Int) : OLe (lex_Tokens_l32_c a0 s14) (lex_Tokens_l32 a0 s14) := by
  unfold lex_Tokens_l32_c lex_Tokens_l32
  exact (OLe.cond (OLe.bind (OLe.refl _) (fun _ => (OLe.bind (lex_one_ev _) (fun _ => (OLe.cond (OLe.refl _) (OLe.bind (OLe.refl _) (fun _ => (OLe.bind (lex_skip_ev _ _) (fun _ => (OLe.refl _)))))))))) (OLe.refl _))
noncomputable def lex_Tokens_c (a0 : ByteArray) : Option ((List S27) × Int × Int) :=
  bif (decide ((a0.size : Int) > 65536)) then
  (some ([], 4, 0))
  else
  (Option.bind (lex_skip_c a0 0) fun (y2 : Int) =>
    Option.bind (loopF 1000000 (lex_Tokens_l32_c a0) ([], y2)) fun (r12 : ((List S27)) ⊕ ((List S27) × Int × Int)) =>
    match r12 with
    | Sum.inl r24 => Option.bind (app r24 [(⟨0, (⟨#[]⟩ : ByteArray), (a0.size : Int)⟩ : S27)]) fun (zs57 : List S27) =>
      bif (decide ((zs57.length : Int) > 4096)) then
      (some ([], 7, 0))
      else
      (some (zs57, 0, 0))
    | Sum.inr v64 => some v64)
theorem lex_Tokens_ev (a0 : ByteArray) : OLe (lex_Tokens_c a0) (lex_Tokens a0) := by
  unfold lex_Tokens_c lex_Tokens
  exact (OLe.cond (OLe.refl _) (OLe.bind (lex_skip_ev _ _) (fun _ => (OLe.bind (OLe.loop (fun _ => lex_Tokens_l32_ev _ _)) (fun j => by cases j with | inl a => exact (OLe.bind (OLe.refl _) (fun _ => (OLe.cond (OLe.refl _) (OLe.refl _)))) | inr b => exact (OLe.refl _))))))
noncomputable def lex_alone_c (a0 : ByteArray) (a1 : Int) : Option Bool :=
  bif (a0.toList == (⟨#[]⟩ : ByteArray).toList) then
  (some false)
  else
  (Option.bind (lex_one_c a0) fun (y2 : S27 × Int) =>
    some ((y2.2 == (a0.size : Int)) && (y2.1.f0 == a1)))
theorem lex_alone_ev (a0 : ByteArray) (a1 : Int) : OLe (lex_alone_c a0 a1) (lex_alone a0 a1) := by
  unfold lex_alone_c lex_alone
  exact (OLe.cond (OLe.refl _) (OLe.bind (lex_one_ev _) (fun _ => (OLe.refl _))))
noncomputable def lex_Span_c (a0 : ByteArray) : Option (Int × Int) :=
  Option.bind (lex_alone_c a0 3) fun (y1 : Bool) =>
  bif (!y1) then
  (some (0, 130))
  else
  (Option.bind (lex_span_c a0) fun (y4 : Int × Int) =>
    bif (decide (y4.2 > 1099511627776)) then
    (some (0, 7))
    else
    (some (y4.2, 0)))
theorem lex_Span_ev (a0 : ByteArray) : OLe (lex_Span_c a0) (lex_Span a0) := by
  unfold lex_Span_c lex_Span
  exact (OLe.bind (lex_alone_ev _ _) (fun _ => (OLe.cond (OLe.refl _) (OLe.bind (lex_span_ev _) (fun _ => (OLe.cond (OLe.refl _) (OLe.refl _)))))))
noncomputable def strconv_FormatInt_c (a0 a1 : Int) : Option ByteArray := strconv_FormatInt a0 a1
theorem strconv_FormatInt_ev (a0 a1 : Int) : OLe (strconv_FormatInt_c a0 a1) (strconv_FormatInt a0 a1) := OLe.refl _
noncomputable def strings_Builder_WriteString_c (a0 : S50) (a1 : ByteArray) : Option (Int × Unit × S50) :=
  Option.bind (app ((strings_Builder_copyCheck (⟨a0.f1⟩ : S50)).f1) (bytesOf a1)) fun (zs10 : List Int) =>
  some ((a1.size : Int), (), (⟨zs10⟩ : S50))
theorem strings_Builder_WriteString_ev (a0 : S50) (a1 : ByteArray) : OLe (strings_Builder_WriteString_c a0 a1) (strings_Builder_WriteString a0 a1) := by
  unfold strings_Builder_WriteString_c strings_Builder_WriteString
  exact (OLe.bind (OLe.refl _) (fun _ => (OLe.refl _)))
noncomputable def lex_SpanText_l50_c : (Unit × (List Int) × Int × Int) → Option ((Unit × (List Int) × Int × Int) ⊕ (Unit × (List Int))) := fun s29 =>
  bif (decide (s29.2.2.2 < (lex_units.length : Int))) then
  (Option.bind (ix lex_units s29.2.2.2) fun (x53 : S62) =>
    Option.bind (quox .i64 s29.2.2.1 x53.f1) fun (q63 : Int) =>
    Option.bind (bif (decide (q63 > 0)) then
      (Option.bind (strconv_FormatInt_c q63 10) fun (y77 : ByteArray) =>
        Option.bind (sadd y77 x53.f0) fun (s79 : ByteArray) =>
        Option.bind (strings_Builder_WriteString_c (⟨s29.2.1⟩ : S50) s79) fun (y81 : Int × Unit × S50) =>
        some ((IntKind.wrap .i64 (s29.2.2.1 - (IntKind.wrap .i64 (q63 * x53.f1)))), (), y81.2.2.f1))
      else
      (some (s29.2.2.1, (), s29.2.1))) fun (j65 : Int × Unit × (List Int)) =>
    some (Sum.inl ((), j65.2.2, j65.1, (IntKind.wrap .i64 (s29.2.2.2 + 1)))))
  else
  (some (Sum.inr ((), s29.2.1)))
theorem lex_SpanText_l50_ev  (s29 : Unit × (List Int) × Int × Int) : OLe (lex_SpanText_l50_c  s29) (lex_SpanText_l50  s29) := by
  unfold lex_SpanText_l50_c lex_SpanText_l50
  exact (OLe.cond (OLe.bind (OLe.refl _) (fun _ => (OLe.bind (OLe.refl _) (fun _ => (OLe.bind (OLe.cond (OLe.bind (strconv_FormatInt_ev _ _) (fun _ => (OLe.bind (OLe.refl _) (fun _ => (OLe.bind (strings_Builder_WriteString_ev _ _) (fun _ => (OLe.refl _))))))) (OLe.refl _)) (fun _ => (OLe.refl _))))))) (OLe.refl _))
noncomputable def lex_SpanText_c (a0 : Int) : Option (ByteArray × Int) :=
  bif ((decide (a0 < 0)) || (decide (a0 > 1099511627776))) then
  (some ((⟨#[]⟩ : ByteArray), 1))
  else
  (bif (a0 == 0) then
    (some ((⟨#[48, 115]⟩ : ByteArray), 0))
    else
    (Option.bind (loopF 1000000 lex_SpanText_l50_c ((), [], a0, 0)) fun (r27 : Unit × (List Int)) =>
      Option.bind (strings_Builder_String (⟨r27.2⟩ : S50)) fun (y92 : ByteArray) =>
      some (y92, 0)))
theorem lex_SpanText_ev (a0 : Int) : OLe (lex_SpanText_c a0) (lex_SpanText a0) := by
  unfold lex_SpanText_c lex_SpanText
  exact (OLe.cond (OLe.refl _) (OLe.cond (OLe.refl _) (OLe.bind (OLe.loop (fun _ => lex_SpanText_l50_ev  _)) (fun _ => (OLe.bind (OLe.refl _) (fun _ => (OLe.refl _)))))))
noncomputable def tocsinlaw13_known_c : Option Bool :=
  Option.bind (lex_Tokens_c (⟨#[97, 58, 98, 123, 120, 61, 126, 34, 99, 46, 42, 34, 125, 91, 53, 109, 93, 32, 62, 32, 49, 46, 53, 101, 51, 32, 35, 32, 101, 110, 100]⟩ : ByteArray)) fun (y1 : (List S27) × Int × Int) =>
  Option.bind (lex_Span_c (⟨#[49, 104, 51, 48, 109]⟩ : ByteArray)) fun (y10 : Int × Int) =>
  Option.bind (lex_SpanText_c 1500) fun (y12 : ByteArray × Int) =>
  Option.bind (bif (y1.2.1 == 0) then
    (bif ((y1.1.length : Int) == 12) then
      (Option.bind (ix y1.1 4) fun (x21 : S27) =>
        bif (x21.f1.toList == (⟨#[99, 46, 42]⟩ : ByteArray).toList) then
        (Option.bind (ix y1.1 7) fun (x31 : S27) =>
          bif (x31.f0 == 3) then
          (bif (y10.2 == 0) then
            (bif (y10.1 == 5400000) then
              (bif (y12.2 == 0) then
                (some (y12.1.toList == (⟨#[49, 115, 53, 48, 48, 109, 115]⟩ : ByteArray).toList))
                else
                (some false))
              else
              (some false))
            else
            (some false))
          else
          (some false))
        else
        (some false))
      else
      (some false))
    else
    (some false)) fun (j14 : Bool) =>
  some j14
theorem tocsinlaw13_known_ev  : OLe (tocsinlaw13_known_c ) (tocsinlaw13_known ) := by
  unfold tocsinlaw13_known_c tocsinlaw13_known
  exact (OLe.bind (lex_Tokens_ev _) (fun _ => (OLe.bind (lex_Span_ev _) (fun _ => (OLe.bind (lex_SpanText_ev _) (fun _ => (OLe.bind (OLe.cond (OLe.cond (OLe.bind (OLe.refl _) (fun _ => (OLe.cond (OLe.bind (OLe.refl _) (fun _ => (OLe.cond (OLe.cond (OLe.cond (OLe.cond (OLe.refl _) (OLe.refl _)) (OLe.refl _)) (OLe.refl _)) (OLe.refl _)))) (OLe.refl _)))) (OLe.refl _)) (OLe.refl _)) (fun _ => (OLe.refl _)))))))))
end Go.Proofs.YtlhpclfkoblnkaaDoor
