/- Plain laws: names, values, label sets: the program's are the document's. -/
import Derived.Test.YtjkkmbjkndageaaDoorPB1f
import Derived.Test.YtjkkmbjkndageaaDoorPA2
set_option linter.unusedVariables false
set_option linter.unusedSimpArgs false
set_option maxRecDepth 100000
namespace Go.Proofs.YtjkkmbjkndageaaDoor
open Go.GB Go.Lib
theorem ix_bytes {s : ByteArray} {i : Nat} (h : i < s.size) : ix (bytesOf s) (i : Int) = some ((bat s i : Nat) : Int) := by
  rw [ix_nat]
  unfold bytesOf bat
  have : i < s.data.toList.length := by rw [size_list]; exact h
  rw [List.getElem?_map, List.getElem?_eq_getElem this, List.getD_eq_getElem?_getD, List.getElem?_eq_getElem this]
  rfl
noncomputable def namedB (s : ByteArray) (most : Nat) (colon : Bool) : Bool := decide (s.size ≠ 0) && (decide (s.size ≤ most) && (!labels_digit (bat s 0) && (List.range s.size).all fun i => labels_letter (bat s i) || (labels_digit (bat s i) || (colon && ((bat s i : Nat) : Int) == 58))))
theorem named_eq (s : ByteArray) {most : Nat} (hm : most ≤ 2147483648) (colon : Bool) : labels_named s (most : Int) colon = some (namedB s most colon) := by
  unfold labels_named namedB
  rw [nil_size]
  by_cases h0 : s.size = 0
  · simp [h0]
  · by_cases h1 : s.size ≤ most
    · have e1 : decide ((s.size : Int) > (most : Int)) = false := decide_eq_false (by omega)
      have e2 : bx s 0 = some ((bat s 0 : Nat) : Int) := bx_bat (i := 0) (by omega)
      simp only [h0, decide_false, cond_false, e1, e2, Option.bind_some, not_false_eq_true, ne_eq, decide_true, h1, Bool.true_and]
      cases hd : labels_digit ((bat s 0 : Nat) : Int) with
      | true => simp
      | false =>
        have e3 : sb s = some (bytesOf s) := by unfold sb maxLen'; rw [if_pos (by omega)]
        simp only [cond_false, e3, Option.bind_some, Bool.not_false, Bool.true_and]
        rw [up_all (n := s.size) (fun i => labels_letter (bat s i) || (labels_digit (bat s i) || (colon && ((bat s i : Nat) : Int) == 58))) (fun i hi => ?_) ?_]
        · simp only [Option.bind_some]
          cases (List.range s.size).all fun i => labels_letter (bat s i) || (labels_digit (bat s i) || (colon && ((bat s i : Nat) : Int) == 58)) <;> rfl
        · unfold labels_named_l33
          rw [show decide ((s.size : Int) < ((bytesOf s).length : Int)) = false from decide_eq_false (by rw [bytesOf_length]; omega)]
          rfl
        · unfold labels_named_l33
          rw [show decide ((i : Int) < ((bytesOf s).length : Int)) = true from decide_eq_true (by rw [bytesOf_length]; omega)]
          simp only [cond_true, ix_bytes hi, Option.bind_some, wrap_up (show i < 4294967296 by omega)]
          cases labels_letter ((bat s i : Nat) : Int) <;> cases labels_digit ((bat s i : Nat) : Int) <;> cases (colon && ((bat s i : Nat) : Int) == 58) <;> rfl
    · have e1 : decide ((s.size : Int) > (most : Int)) = true := decide_eq_true (by omega)
      simp only [h0, h1, decide_false, decide_true, cond_false, e1, cond_true, Option.bind_some, ne_eq, not_false_eq_true, Bool.false_and, Bool.and_false]
theorem Name_eq (s : ByteArray) : labels_Name s = some (namedB s 64 false) := by
  unfold labels_Name
  rw [show (64 : Int) = ((64 : Nat) : Int) from rfl, named_eq s (by omega) false]
  rfl
theorem let_not_dig (c : Int) : labels_letter c = true → labels_digit c = false := by
  unfold labels_letter labels_digit
  intro h
  rw [Bool.eq_false_iff]
  simp only [Bool.or_eq_true, Bool.and_eq_true, decide_eq_true_eq, beq_iff_eq] at h
  simp only [ne_eq, Bool.and_eq_true, decide_eq_true_eq]
  omega
theorem refName_eq (s : ByteArray) : tocsinref04_Name s = some (namedB s 64 false) := by
  unfold tocsinref04_Name namedB
  rw [nil_size]
  by_cases h0 : s.size = 0
  · simp [h0]
  · by_cases h1 : s.size ≤ 64
    · have e1 : decide ((s.size : Int) > 64) = false := decide_eq_false (by omega)
      simp only [h0, decide_false, e1, Bool.or_self, cond_false, not_false_eq_true, ne_eq, decide_true, h1, Bool.true_and]
      have hq : (!labels_digit ((bat s 0 : Nat) : Int) && (List.range s.size).all fun i => labels_letter (bat s i) || (labels_digit (bat s i) || (false && ((bat s i : Nat) : Int) == 58))) = (List.range s.size).all fun i => labels_letter (bat s i) || (decide (i ≠ 0) && labels_digit (bat s i)) := by
        rw [Bool.eq_iff_iff, Bool.and_eq_true, List.all_eq_true, List.all_eq_true]
        constructor
        · rintro ⟨h2, h3⟩ i hi
          have := h3 i hi
          by_cases hi0 : i = 0
          · subst hi0
            simp only [Bool.not_eq_true'] at h2
            simpa [h2] using this
          · simpa [hi0] using this
        · intro h3
          refine ⟨?_, fun i hi => ?_⟩
          · have := h3 0 (List.mem_range.2 (by omega))
            simp only [ne_eq, not_true_eq_false, decide_false, Bool.false_and, Bool.or_false] at this
            rw [let_not_dig _ this]; rfl
          · have := h3 i hi
            simp only [Bool.or_eq_true, Bool.and_eq_true] at this ⊢
            rcases this with h | h
            · exact .inl h
            · exact .inr (.inl h.2)
      rw [hq, up_all (n := s.size) (fun i => labels_letter (bat s i) || (decide (i ≠ 0) && labels_digit (bat s i))) (fun i hi => ?_) ?_]
      · simp only [Option.bind_some]
        cases (List.range s.size).all fun i => labels_letter (bat s i) || (decide (i ≠ 0) && labels_digit (bat s i)) <;> rfl
      · unfold tocsinref04_Name_l24
        rw [show decide ((s.size : Int) < (s.size : Int)) = false from decide_eq_false (by omega)]
        rfl
      · unfold tocsinref04_Name_l24
        rw [show decide ((i : Int) < (s.size : Int)) = true from decide_eq_true (by omega)]
        have el : ∀ c, tocsinref04_letter c = labels_letter c := fun _ => rfl
        have ed : ∀ c, tocsinref04_digit c = labels_digit c := fun _ => rfl
        simp only [cond_true, bx_bat hi, Option.bind_some, wrap_up (show i < 4294967296 by omega), el, ed]
        by_cases hi0 : i = 0
        · subst hi0
          cases labels_letter ((bat s 0 : Nat) : Int) <;> rfl
        · have e2 : ((i : Int) == 0) = false := by rw [beq_eq_false_iff_ne]; omega
          simp only [e2, hi0, cond_false]
          cases labels_letter ((bat s i : Nat) : Int) <;> cases labels_digit ((bat s i : Nat) : Int) <;> simp [hi0]
    · have e1 : decide ((s.size : Int) > 64) = true := decide_eq_true (by omega)
      simp only [e1, h1, Bool.or_true, cond_true, decide_false, Bool.false_and, Bool.and_false]
noncomputable def valueE (s : ByteArray) : Int := if s.size = 0 then 41 else if s.size > 256 then 4 else if validD s.data.toList then 0 else 12
theorem value_eq (s : ByteArray) : labels_value s = some (valueE s) := by
  unfold labels_value valueE
  rw [nil_size]
  by_cases h0 : s.size = 0
  · simp [h0]
  · by_cases h1 : s.size > 256
    · simp [h0, h1, show decide ((s.size : Int) > 256) = true from decide_eq_true (by omega)]
    · have e1 : decide ((s.size : Int) > 256) = false := decide_eq_false (by omega)
      simp only [h0, decide_false, cond_false, e1, valid_eq (show s.size < 4611686018427387904 by omega), Option.bind_some, if_false, h1]
      cases validD s.data.toList <;> rfl
noncomputable def oneE (x : S53) : Int := if namedB x.f0 64 false then valueE x.f1 else 40
theorem refOne_eq (x : S53) : tocsinref04_one x = some (oneE x) := by
  unfold tocsinref04_one oneE
  rw [refName_eq, nil_size]
  simp only [Option.bind_some]
  cases namedB x.f0 64 false with
  | false => rfl
  | true =>
    simp only [Bool.not_true, cond_false, if_true]
    unfold valueE
    by_cases h0 : x.f1.size = 0
    · simp [h0]
    · by_cases h1 : x.f1.size > 256
      · simp [h0, h1, show decide ((x.f1.size : Int) > 256) = true from decide_eq_true (by omega)]
      · have e1 : decide ((x.f1.size : Int) > 256) = false := decide_eq_false (by omega)
        simp only [h0, decide_false, cond_false, e1, refUtf8_eq (show x.f1.size < 4611686018427387904 by omega), Option.bind_some, if_false, h1]
        cases validD x.f1.data.toList <;> rfl
/-- The first fault of a label set, at a place. -/
noncomputable def faultAt (l : List S53) (i : Nat) : Option (Int × Int) := match l[i]? with
  | none => none
  | some x => if oneE x ≠ 0 then some (oneE x, (i : Int)) else if i = 0 then none else match l[i - 1]? with
    | none => none
    | some y => if cmpS y.f0 x.f0 = -1 then none else some (3, (i : Int))
noncomputable def rightE (l : List S53) : Int × Int := if l.length > 16 then (8, 0) else ((List.range l.length).findSome? (faultAt l)).getD (0, 0)
theorem oneE_ne {x : S53} (h : namedB x.f0 64 false = false) : oneE x = 40 := by unfold oneE; rw [h]; rfl
theorem ix_prev {α : Type} {l : List α} {i : Nat} (h0 : 0 < i) (hi : i < 4294967296) : ix l (IntKind.wrap .i64 ((i : Int) - 1)) = l[i - 1]? := by
  rw [wrap64 (by omega) (by omega), show (i : Int) - 1 = ((i - 1 : Nat) : Int) by omega, ix_nat]
theorem Right_eq (l : List S53) : labels_Right l = some (rightE l) := by
  unfold labels_Right rightE
  by_cases hl : l.length > 16
  · simp [hl, show decide ((l.length : Int) > 16) = true from decide_eq_true (by omega)]
  · rw [show decide ((l.length : Int) > 16) = false from decide_eq_false (by omega), if_neg hl]
    simp only [cond_false]
    rw [up_find (n := l.length) (faultAt l) (fun i hi => ?_) ?_]
    · simp only [Option.bind_some]
      cases (List.range l.length).findSome? (faultAt l) <;> rfl
    · unfold labels_Right_l18
      rw [show decide ((l.length : Int) < (l.length : Int)) = false from decide_eq_false (by omega)]
      rfl
    · unfold labels_Right_l18 faultAt
      have hx : l[i]? = some l[i] := List.getElem?_eq_getElem hi
      rw [show decide ((i : Int) < (l.length : Int)) = true from decide_eq_true (by omega)]
      simp only [cond_true, ix_nat, hx, Option.bind_some, Name_eq, value_eq]
      cases hn : namedB l[i].f0 64 false with
      | false => rw [oneE_ne hn]; rfl
      | true =>
        have ho : oneE l[i] = valueE l[i].f1 := by unfold oneE; rw [hn]; rfl
        rw [ho]
        simp only [Bool.not_true, cond_false]
        by_cases hv : valueE l[i].f1 = 0
        · have e2 : (valueE l[i].f1 != 0) = false := by simp [hv]
          rw [if_neg (by simpa using hv)]
          simp only [e2, cond_false, wrap_up (show i < 4294967296 by omega)]
          by_cases hi0 : i = 0
          · subst hi0
            simp
          · have e3 : decide ((i : Int) > 0) = true := decide_eq_true (by omega)
            have hy : l[i - 1]? = some (l[i - 1]'(by omega)) := List.getElem?_eq_getElem (by omega)
            rw [if_neg hi0]
            simp only [e3, cond_true, ix_prev (show 0 < i by omega) (show i < 4294967296 by omega), hy, Option.bind_some, less_eq, beq_eq]
            have hs := cmpS_swap (l[i - 1]'(by omega)).f0 l[i].f0
            have hr := cmpS_range (l[i - 1]'(by omega)).f0 l[i].f0
            by_cases hc : cmpS (l[i - 1]'(by omega)).f0 l[i].f0 = -1
            · rw [if_pos hc]
              have : (decide (cmpS l[i].f0 (l[i - 1]'(by omega)).f0 = -1) || decide (cmpS l[i].f0 (l[i - 1]'(by omega)).f0 = 0)) = false := by
                rw [Bool.eq_false_iff]; simp only [ne_eq, Bool.or_eq_true, decide_eq_true_eq]; omega
              rw [this]; rfl
            · rw [if_neg hc]
              have : (decide (cmpS l[i].f0 (l[i - 1]'(by omega)).f0 = -1) || decide (cmpS l[i].f0 (l[i - 1]'(by omega)).f0 = 0)) = true := by
                simp only [Bool.or_eq_true, decide_eq_true_eq]; omega
              rw [this]; rfl
        · have e2 : (valueE l[i].f1 != 0) = true := by simpa using hv
          rw [if_pos hv]
          simp only [e2, cond_true]
theorem refRight_eq (l : List S53) : tocsinref04_Right l = some (rightE l) := by
  unfold tocsinref04_Right rightE
  by_cases hl : l.length > 16
  · simp [hl, show decide ((l.length : Int) > 16) = true from decide_eq_true (by omega)]
  · rw [show decide ((l.length : Int) > 16) = false from decide_eq_false (by omega), if_neg hl]
    simp only [cond_false]
    rw [up_find (n := l.length) (faultAt l) (fun i hi => ?_) ?_]
    · simp only [Option.bind_some]
      cases (List.range l.length).findSome? (faultAt l) <;> rfl
    · unfold tocsinref04_Right_l18
      rw [show decide ((l.length : Int) < (l.length : Int)) = false from decide_eq_false (by omega)]
      rfl
    · unfold tocsinref04_Right_l18 faultAt
      have hx : l[i]? = some l[i] := List.getElem?_eq_getElem hi
      rw [show decide ((i : Int) < (l.length : Int)) = true from decide_eq_true (by omega)]
      simp only [cond_true, ix_nat, hx, Option.bind_some, refOne_eq]
      by_cases hv : oneE l[i] = 0
      · have e2 : (oneE l[i] != 0) = false := by simp [hv]
        rw [if_neg (by simpa using hv)]
        simp only [e2, cond_false, wrap_up (show i < 4294967296 by omega)]
        by_cases hi0 : i = 0
        · subst hi0
          simp
        · have e3 : decide ((i : Int) > 0) = true := decide_eq_true (by omega)
          have hy : l[i - 1]? = some (l[i - 1]'(by omega)) := List.getElem?_eq_getElem (by omega)
          rw [if_neg hi0]
          simp only [e3, cond_true, ix_prev (show 0 < i by omega) (show i < 4294967296 by omega), hy, Option.bind_some, less_eq]
          by_cases hc : cmpS (l[i - 1]'(by omega)).f0 l[i].f0 = -1
          · rw [if_pos hc, decide_eq_true hc]; rfl
          · rw [if_neg hc, decide_eq_false hc]; rfl
      · have e2 : (oneE l[i] != 0) = true := by simpa using hv
        rw [if_pos hv]
        simp only [e2, cond_true]
end Go.Proofs.YtjkkmbjkndageaaDoor
