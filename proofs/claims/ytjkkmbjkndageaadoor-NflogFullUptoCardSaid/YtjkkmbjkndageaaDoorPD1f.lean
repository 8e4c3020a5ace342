/- Plain laws: marks: the program's are the document's. -/
import Derived.Test.YtjkkmbjkndageaaDoorPB3f
import Derived.Test.YtjkkmbjkndageaaDoorPA4
set_option linter.unusedVariables false
set_option linter.unusedSimpArgs false
set_option maxRecDepth 100000
namespace Go.Proofs.YtjkkmbjkndageaaDoor
open Go.GB Go.Lib
abbrev Sets := List (List S53)
def Wl (x : List S53) : Prop := x.length ≤ 2147483648
def Ws (l : Sets) : Prop := l.length ≤ 2147483648 ∧ ∀ x ∈ l, Wl x
def Wm (m : S23) : Prop := Ws m.f3 ∧ Ws m.f4
def zm : S23 := ⟨⟨#[]⟩, ⟨#[]⟩, 0, [], []⟩
noncomputable def riseAt (l : Sets) (i : Nat) : Bool := match l[i]? with
  | none => false
  | some x => decide ((rightE x).1 = 0) && (decide (i = 0) || match l[i - 1]? with | none => false | some y => decide (cmpL y x < 0))
noncomputable def risingB (l : Sets) : Bool := (List.range l.length).all (riseAt l)
theorem rising_eq {l : Sets} (hl : Ws l) : nflog_rising l = some (risingB l) := by
  obtain ⟨h1, h2⟩ := hl
  unfold nflog_rising risingB
  rw [up_all (n := l.length) (riseAt l) (fun i hi => ?_) ?_]
  · simp only [Option.bind_some]
    cases (List.range l.length).all (riseAt l) <;> rfl
  · unfold nflog_rising_l17
    rw [show decide ((l.length : Int) < (l.length : Int)) = false from decide_eq_false (by omega)]
    rfl
  · unfold nflog_rising_l17 riseAt
    have hx : l[i]? = some l[i] := List.getElem?_eq_getElem hi
    rw [show decide ((i : Int) < (l.length : Int)) = true from decide_eq_true (by omega)]
    simp only [cond_true, ix_nat, hx, Option.bind_some, Right_eq]
    by_cases hr : (rightE l[i]).1 = 0
    · rw [show ((rightE l[i]).1 != 0) = false by simp [hr], decide_eq_true hr]
      simp only [cond_false, Bool.true_and]
      by_cases hi0 : i = 0
      · subst hi0
        simp
        rfl
      · have hy : l[i - 1]? = some (l[i - 1]'(by omega)) := List.getElem?_eq_getElem (by omega)
        rw [show decide ((i : Int) > 0) = true from decide_eq_true (by omega), ix_prev (by omega) (by omega), hy]
        simp only [cond_true, Option.bind_some, compare_eq _ _ (h2 _ (List.getElem_mem (show i - 1 < l.length by omega))), hi0, decide_false, Bool.false_or, wrap_up (show i < 4294967296 by omega)]
        by_cases hc : cmpL (l[i - 1]'(by omega)) l[i] < 0
        · rw [decide_eq_true hc, decide_eq_false (show ¬ cmpL (l[i - 1]'(by omega)) l[i] ≥ 0 by omega)]; rfl
        · rw [decide_eq_false hc, decide_eq_true (show cmpL (l[i - 1]'(by omega)) l[i] ≥ 0 by omega)]; rfl
    · rw [show ((rightE l[i]).1 != 0) = true by simpa using hr, decide_eq_false hr]
      rfl
theorem refRising_eq {l : Sets} (hl : Ws l) : tocsinref26_rising l = some (risingB l) := by
  obtain ⟨h1, h2⟩ := hl
  unfold tocsinref26_rising risingB
  rw [up_all (n := l.length) (riseAt l) (fun i hi => ?_) ?_]
  · simp only [Option.bind_some]
    cases (List.range l.length).all (riseAt l) <;> rfl
  · unfold tocsinref26_rising_l17
    rw [show decide ((l.length : Int) < (l.length : Int)) = false from decide_eq_false (by omega)]
    rfl
  · unfold tocsinref26_rising_l17 riseAt
    have hx : l[i]? = some l[i] := List.getElem?_eq_getElem hi
    rw [show decide ((i : Int) < (l.length : Int)) = true from decide_eq_true (by omega)]
    simp only [cond_true, ix_nat, hx, Option.bind_some, refRight_eq]
    by_cases hr : (rightE l[i]).1 = 0
    · rw [show ((rightE l[i]).1 != 0) = false by simp [hr], decide_eq_true hr]
      simp only [cond_false, Bool.true_and]
      by_cases hi0 : i = 0
      · subst hi0
        simp
        rfl
      · have hy : l[i - 1]? = some (l[i - 1]'(by omega)) := List.getElem?_eq_getElem (by omega)
        rw [show decide ((i : Int) > 0) = true from decide_eq_true (by omega), ix_prev (by omega) (by omega), hy]
        simp only [cond_true, Option.bind_some, refCompare_eq _ _ (h2 _ (List.getElem_mem (show i - 1 < l.length by omega))), hi0, decide_false, Bool.false_or, wrap_up (show i < 4294967296 by omega)]
        by_cases hc : cmpL (l[i - 1]'(by omega)) l[i] < 0
        · rw [decide_eq_true hc, decide_eq_false (show ¬ cmpL (l[i - 1]'(by omega)) l[i] ≥ 0 by omega)]; rfl
        · rw [decide_eq_false hc, decide_eq_true (show cmpL (l[i - 1]'(by omega)) l[i] ≥ 0 by omega)]; rfl
    · rw [show ((rightE l[i]).1 != 0) = true by simpa using hr, decide_eq_false hr]
      rfl
def textB (s : ByteArray) (most : Nat) : Bool := decide (1 ≤ s.size) && (decide (s.size ≤ most) && validD s.data.toList)
theorem text_eq (s : ByteArray) {most : Nat} (hm : most < 4611686018427387904) : nflog_text s (most : Int) = some (textB s most) := by
  unfold nflog_text textB
  by_cases h1 : 1 ≤ s.size
  · by_cases h2 : s.size ≤ most
    · rw [show decide ((s.size : Int) ≥ 1) = true from decide_eq_true (by omega), show decide ((s.size : Int) ≤ (most : Int)) = true from decide_eq_true (by omega), valid_eq (by omega), decide_eq_true h1, decide_eq_true h2]
      rfl
    · rw [show decide ((s.size : Int) ≥ 1) = true from decide_eq_true (by omega), show decide ((s.size : Int) ≤ (most : Int)) = false from decide_eq_false (by omega), decide_eq_true h1, decide_eq_false h2]
      rfl
  · rw [show decide ((s.size : Int) ≥ 1) = false from decide_eq_false (by omega), decide_eq_false h1]
    rfl
theorem refText_eq (s : ByteArray) {most : Nat} (hm : most < 4611686018427387904) : (bif (s.toList == (⟨#[]⟩ : ByteArray).toList) then (some true) else (bif (decide ((s.size : Int) > (most : Int))) then (some true) else (Option.bind (tocsinref01_Utf8 s) fun (y9 : Bool) => some (!y9)))) = some (!textB s most) := by
  unfold textB
  rw [nil_size]
  by_cases h1 : s.size = 0
  · simp [h1]
  · by_cases h2 : s.size ≤ most
    · rw [show decide ((s.size : Int) > (most : Int)) = false from decide_eq_false (by omega), refUtf8_eq (by omega), decide_eq_false h1, decide_eq_true h2, decide_eq_true (show 1 ≤ s.size by omega)]
      rfl
    · rw [show decide ((s.size : Int) > (most : Int)) = true from decide_eq_true (by omega), decide_eq_false h1, decide_eq_false h2, Bool.false_and, Bool.and_false]
      rfl
noncomputable def markE (m : S23) : Int := if textB m.f0 64 = false then 204 else if textB m.f1 65536 = false then 40 else if m.f2 < 0 ∨ m.f2 > 1125899906842624 then 1 else if m.f3.length > 500 ∨ m.f4.length > 500 then 8 else if risingB m.f3 && risingB m.f4 then 0 else 41
theorem MRight_eq {m : S23} (hm : Wm m) : nflog_Right m = some (markE m) := by
  unfold nflog_Right markE
  rw [show (64 : Int) = ((64 : Nat) : Int) from rfl, text_eq m.f0 (by omega)]
  simp only [Option.bind_some]
  cases textB m.f0 64 with
  | false => rfl
  | true =>
    simp only [Bool.not_true, cond_false, Bool.true_eq_false, if_false]
    rw [show (65536 : Int) = ((65536 : Nat) : Int) from rfl, text_eq m.f1 (by omega)]
    simp only [Option.bind_some]
    cases textB m.f1 65536 with
    | false => rfl
    | true =>
      simp only [Bool.not_true, cond_false, Bool.true_eq_false, if_false]
      by_cases h3 : m.f2 < 0 ∨ m.f2 > 1125899906842624
      · rw [if_pos h3, show (decide (m.f2 < 0) || decide (m.f2 > 1125899906842624)) = true by simpa using h3]; rfl
      · rw [if_neg h3, show (decide (m.f2 < 0) || decide (m.f2 > 1125899906842624)) = false by rw [Bool.eq_false_iff]; simpa using h3]
        simp only [cond_false]
        by_cases h4 : m.f3.length > 500 ∨ m.f4.length > 500
        · rw [if_pos h4, show (decide ((m.f3.length : Int) > 500) || decide ((m.f4.length : Int) > 500)) = true by simp only [Bool.or_eq_true, decide_eq_true_eq]; omega]; rfl
        · rw [if_neg h4, show (decide ((m.f3.length : Int) > 500) || decide ((m.f4.length : Int) > 500)) = false by rw [Bool.eq_false_iff]; simp only [ne_eq, Bool.or_eq_true, decide_eq_true_eq]; omega]
          simp only [cond_false]
          rw [rising_eq hm.1]
          simp only [Option.bind_some]
          cases risingB m.f3 with
          | false => rfl
          | true =>
            simp only [Bool.not_true, cond_false]
            rw [rising_eq hm.2]
            cases risingB m.f4 <;> rfl
theorem refMRight_eq {m : S23} (hm : Wm m) : tocsinref26_Right m = some (markE m) := by
  unfold tocsinref26_Right markE
  have t1 := refText_eq m.f0 (most := 64) (by omega)
  have t2 := refText_eq m.f1 (most := 65536) (by omega)
  rw [show ((64 : Nat) : Int) = 64 from rfl] at t1
  rw [show ((65536 : Nat) : Int) = 65536 from rfl] at t2
  rw [t1, t2]
  simp only [Option.bind_some]
  cases textB m.f0 64 with
  | false => rfl
  | true =>
    simp only [Bool.not_true, cond_false, Bool.true_eq_false, if_false]
    cases textB m.f1 65536 with
    | false => rfl
    | true =>
      simp only [Bool.not_true, cond_false, Bool.true_eq_false, if_false]
      unfold tocsinref26_time
      by_cases h3 : m.f2 < 0 ∨ m.f2 > 1125899906842624
      · rw [if_pos h3, show (!(decide (m.f2 ≥ 0) && decide (m.f2 ≤ 1125899906842624))) = true by rw [Bool.not_eq_true', Bool.eq_false_iff]; simp only [ne_eq, Bool.and_eq_true, decide_eq_true_eq]; omega]; rfl
      · rw [if_neg h3, show (!(decide (m.f2 ≥ 0) && decide (m.f2 ≤ 1125899906842624))) = false by rw [Bool.not_eq_false']; simp only [Bool.and_eq_true, decide_eq_true_eq]; omega]
        simp only [cond_false]
        by_cases h4 : m.f3.length > 500 ∨ m.f4.length > 500
        · rw [if_pos h4, show (decide ((m.f3.length : Int) > 500) || decide ((m.f4.length : Int) > 500)) = true by simp only [Bool.or_eq_true, decide_eq_true_eq]; omega]; rfl
        · rw [if_neg h4, show (decide ((m.f3.length : Int) > 500) || decide ((m.f4.length : Int) > 500)) = false by rw [Bool.eq_false_iff]; simp only [ne_eq, Bool.or_eq_true, decide_eq_true_eq]; omega]
          simp only [cond_false]
          rw [refRising_eq hm.1]
          simp only [Option.bind_some]
          cases risingB m.f3 with
          | false => rfl
          | true =>
            simp only [Bool.not_true, cond_false]
            rw [refRising_eq hm.2]
            cases risingB m.f4 <;> rfl
theorem mark_parts {m : S23} (h : markE m = 0) : textB m.f0 64 = true ∧ textB m.f1 65536 = true ∧ (0 ≤ m.f2 ∧ m.f2 ≤ 1125899906842624) ∧ m.f3.length ≤ 500 ∧ m.f4.length ≤ 500 ∧ risingB m.f3 = true ∧ risingB m.f4 = true := by
  unfold markE at h
  cases h1 : textB m.f0 64 with
  | false => rw [h1] at h; cases h
  | true =>
    rw [h1] at h
    cases h2 : textB m.f1 65536 with
    | false => rw [h2] at h; cases h
    | true =>
      rw [h2] at h
      simp only [Bool.true_eq_false, if_false] at h
      by_cases h3 : m.f2 < 0 ∨ m.f2 > 1125899906842624
      · rw [if_pos h3] at h; cases h
      · rw [if_neg h3] at h
        by_cases h4 : m.f3.length > 500 ∨ m.f4.length > 500
        · rw [if_pos h4] at h; cases h
        · rw [if_neg h4] at h
          cases h5 : risingB m.f3 with
          | false => rw [h5] at h; cases h
          | true =>
            cases h6 : risingB m.f4 with
            | false => rw [h5, h6] at h; cases h
            | true => exact ⟨rfl, rfl, by omega, by omega, by omega, rfl, rfl⟩
theorem rising_all {l : Sets} (h : risingB l = true) : ∀ x ∈ l, (rightE x).1 = 0 := by
  intro x hx
  obtain ⟨i, hi, rfl⟩ := List.getElem_of_mem hx
  unfold risingB at h
  rw [List.all_eq_true] at h
  have := h i (List.mem_range.2 hi)
  unfold riseAt at this
  rw [List.getElem?_eq_getElem hi] at this
  simp only [Bool.and_eq_true, decide_eq_true_eq] at this
  exact this.1
theorem textB_parts {s : ByteArray} {most : Nat} (h : textB s most = true) : s.size ≤ most ∧ validD s.data.toList = true := by
  unfold textB at h
  simp only [Bool.and_eq_true, decide_eq_true_eq] at h
  exact ⟨h.2.1, h.2.2⟩
/-! ### Copies, likeness -/
theorem lent_eq {l : Sets} (hl : Ws l) : tocsinlaw26_lent l = some l := by
  obtain ⟨h1, h2⟩ := hl
  unfold tocsinlaw26_lent
  have h : loopO (tocsinlaw26_lent_l28 l) ([], 0) = some l := by
    have := up_inv (body := tocsinlaw26_lent_l28 l) (fun i => (l.take i, (i : Int))) (n := l.length) (r := l) (fun i hi => ?_) ?_ 0 (Nat.zero_le _)
    · simpa using this
    · unfold tocsinlaw26_lent_l28
      have e1 : ix l ((i : Nat) : Int) = some l[i] := by rw [ix_nat, List.getElem?_eq_getElem hi]
      have e2 : app ([] : List S53) l[i] = some l[i] := by
        have := h2 _ (List.getElem_mem hi)
        unfold Wl at this
        rw [app_eq (by simpa using this)]; rfl
      have e3 : app (l.take i) [l[i]] = some (l.take (i + 1)) := by
        rw [app_eq (by simp; omega), List.take_append_getElem hi]
      have e4 : decide (((i : Nat) : Int) < (l.length : Int)) = true := decide_eq_true (by omega)
      simp only [e4, cond_true, e1, Option.bind_some, e2, e3, wrap_up (show i < 4294967296 by omega)]
    · unfold tocsinlaw26_lent_l28
      have e4 : decide ((l.length : Int) < (l.length : Int)) = false := decide_eq_false (by omega)
      simp only [e4, cond_false, List.take_length]
  rw [h]; rfl
theorem mark_eq {m : S23} (hm : Wm m) : tocsinlaw26_mark m = some m := by
  unfold tocsinlaw26_mark
  rw [lent_eq hm.1, lent_eq hm.2]; rfl
theorem refSets_self {l : Sets} (hl : Ws l) : tocsinref26_SameSets l l = some true := by
  obtain ⟨h1, h2⟩ := hl
  unfold tocsinref26_SameSets
  rw [up_all (n := l.length) (fun _ => true) (fun i hi => ?_) ?_]
  · simp
  · unfold tocsinref26_SameSets_l18
    rw [show decide ((l.length : Int) < (l.length : Int)) = false from decide_eq_false (by omega)]; rfl
  · unfold tocsinref26_SameSets_l18
    have e1 : ix l ((i : Nat) : Int) = some l[i] := by rw [ix_nat, List.getElem?_eq_getElem hi]
    have e4 : decide (((i : Nat) : Int) < (l.length : Int)) = true := decide_eq_true (by omega)
    simp only [e4, cond_true, e1, Option.bind_some, refSame_eq _ _ (h2 _ (List.getElem_mem hi)), cmpL_self, wrap_up (show i < 4294967296 by omega)]
    rfl
theorem refMark_self {m : S23} (hm : Wm m) : tocsinref26_Same m m = some true := by
  unfold tocsinref26_Same
  rw [refSets_self hm.1, refSets_self hm.2]
  simp
end Go.Proofs.YtjkkmbjkndageaaDoor
