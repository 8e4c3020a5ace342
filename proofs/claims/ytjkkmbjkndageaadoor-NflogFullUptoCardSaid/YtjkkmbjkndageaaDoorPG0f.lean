/- Plain laws: what a right label set is made of. -/
import Derived.Test.YtjkkmbjkndageaaDoorPB2f
set_option linter.unusedVariables false
set_option linter.unusedSimpArgs false
set_option maxRecDepth 100000
namespace Go.Proofs.YtjkkmbjkndageaaDoor
open Go.GB Go.Lib
theorem faultAt_ne {l : List S53} {i : Nat} {v : Int × Int} (h : faultAt l i = some v) : v.1 ≠ 0 := by
  unfold faultAt at h
  split at h
  · cases h
  · rename_i x _
    by_cases h1 : oneE x ≠ 0
    · rw [if_pos h1] at h; cases h; exact h1
    · rw [if_neg h1] at h
      split at h
      · cases h
      · split at h
        · cases h
        · split at h
          · cases h
          · cases h; show (3 : Int) ≠ 0; decide
theorem right_none {l : List S53} (h : (rightE l).1 = 0) : l.length ≤ 16 ∧ ∀ i, i < l.length → faultAt l i = none := by
  unfold rightE at h
  split at h
  · cases h
  · refine ⟨by omega, fun i hi => ?_⟩
    cases hf : (List.range l.length).findSome? (faultAt l) with
    | some v =>
      rw [hf] at h
      obtain ⟨j, _, hj⟩ := List.exists_of_findSome?_eq_some hf
      exact absurd h (faultAt_ne hj)
    | none => rw [List.findSome?_eq_none_iff] at hf; exact hf i (List.mem_range.2 hi)
theorem right_zero {l : List S53} (h : (rightE l).1 = 0) : rightE l = (0, 0) := by
  obtain ⟨h1, h2⟩ := right_none h
  unfold rightE
  rw [if_neg (by omega)]
  have : (List.range l.length).findSome? (faultAt l) = none := by
    rw [List.findSome?_eq_none_iff]
    exact fun i hi => h2 i (List.mem_range.1 hi)
  rw [this]; rfl
theorem one_parts {x : S53} (h : oneE x = 0) : namedB x.f0 64 false = true ∧ x.f1.size ≠ 0 ∧ x.f1.size ≤ 256 ∧ validD x.f1.data.toList = true := by
  unfold oneE at h
  cases hn : namedB x.f0 64 false with
  | false => rw [hn] at h; cases h
  | true =>
    rw [hn] at h
    simp only [if_true] at h
    unfold valueE at h
    by_cases h0 : x.f1.size = 0
    · rw [if_pos h0] at h; cases h
    · rw [if_neg h0] at h
      by_cases h1 : x.f1.size > 256
      · rw [if_pos h1] at h; cases h
      · rw [if_neg h1] at h
        cases hv : validD x.f1.data.toList with
        | false => rw [hv] at h; cases h
        | true => exact ⟨rfl, h0, by omega, rfl⟩
theorem named_valid {s : ByteArray} {most : Nat} {c : Bool} (h : namedB s most c = true) : s.size ≤ most ∧ s.size ≠ 0 ∧ validD s.data.toList = true := by
  unfold namedB at h
  simp only [Bool.and_eq_true, decide_eq_true_eq, List.all_eq_true, Bool.not_eq_true'] at h
  obtain ⟨h0, h1, _, h2⟩ := h
  refine ⟨h1, h0, ?_⟩
  have := validD_ascii s.data.toList.length s.data.toList (fun b hb => by
    rw [List.take_length] at hb
    obtain ⟨i, hi, rfl⟩ := List.getElem_of_mem hb
    have h3 := h2 i (List.mem_range.2 (by rw [← size_list]; exact hi))
    have e : bat s i = (s.data.toList[i]).toNat := by
      unfold bat
      rw [List.getD_eq_getElem?_getD, List.getElem?_eq_getElem hi]; rfl
    rw [e] at h3
    unfold labels_letter labels_digit at h3
    simp only [Bool.or_eq_true, Bool.and_eq_true, decide_eq_true_eq, beq_iff_eq] at h3
    omega)
  rw [this, List.drop_length]
  rfl
theorem right_parts {l : List S53} (h : (rightE l).1 = 0) : l.length ≤ 16 ∧ ∀ x ∈ l, oneE x = 0 := by
  obtain ⟨h1, h2⟩ := right_none h
  refine ⟨h1, fun x hx => ?_⟩
  obtain ⟨i, hi, rfl⟩ := List.getElem_of_mem hx
  have := h2 i hi
  unfold faultAt at this
  rw [List.getElem?_eq_getElem hi] at this
  simp only at this
  by_cases h0 : oneE l[i] ≠ 0
  · rw [if_pos h0] at this; cases this
  · simpa using h0
end Go.Proofs.YtjkkmbjkndageaaDoor
