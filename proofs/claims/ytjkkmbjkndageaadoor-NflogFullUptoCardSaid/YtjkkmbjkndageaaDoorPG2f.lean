/- Plain laws of chapter 4: what is lent and kept; what is spoilt. -/
import Derived.Test.YtjkkmbjkndageaaDoorPG1f
set_option linter.unusedVariables false
set_option linter.unusedSimpArgs false
set_option maxRecDepth 100000
namespace Go.Proofs.YtjkkmbjkndageaaDoor
open Go.GB Go.Lib
def behind : LB := ⟨(⟨#[98, 101, 104, 105, 110, 100]⟩ : ByteArray), (⟨#[119, 104, 97, 116, 32, 119, 97, 115, 32, 104, 97, 110, 100, 101, 100, 32, 105, 110]⟩ : ByteArray)⟩
theorem refMetric_eq (s : ByteArray) : tocsinref04_Metric s = some (namedB s 256 true) := by
  unfold tocsinref04_Metric namedB
  rw [nil_size]
  by_cases h0 : s.size = 0
  · simp [h0]
  · by_cases h1 : s.size ≤ 256
    · have e1 : decide ((s.size : Int) > 256) = false := decide_eq_false (by omega)
      simp only [h0, decide_false, e1, Bool.or_self, cond_false, not_false_eq_true, ne_eq, decide_true, h1, Bool.true_and]
      have hc : ∀ c : Int, (c == 58) = true → labels_digit c = false := fun c h => by
        rw [beq_iff_eq] at h; subst h; rfl
      have hq : (!labels_digit ((bat s 0 : Nat) : Int) && (List.range s.size).all fun i => labels_letter (bat s i) || (labels_digit (bat s i) || (((bat s i : Nat) : Int) == 58))) = (List.range s.size).all fun i => labels_letter (bat s i) || (((bat s i : Nat) : Int) == 58 || (decide (i ≠ 0) && labels_digit (bat s i))) := by
        rw [Bool.eq_iff_iff, Bool.and_eq_true, List.all_eq_true, List.all_eq_true]
        constructor
        · rintro ⟨h2, h3⟩ i hi
          have := h3 i hi
          by_cases hi0 : i = 0
          · subst hi0
            simp only [Bool.not_eq_true'] at h2
            simpa [h2] using this
          · simp only [Bool.or_eq_true] at this
            rcases this with h | h | h <;> simp [h, hi0]
        · intro h3
          refine ⟨?_, fun i hi => ?_⟩
          · have := h3 0 (List.mem_range.2 (by omega))
            simp only [ne_eq, not_true_eq_false, decide_false, Bool.false_and, Bool.or_false, Bool.or_eq_true] at this
            rcases this with h | h
            · rw [let_not_dig _ h]; rfl
            · rw [hc _ h]; rfl
          · have := h3 i hi
            simp only [Bool.or_eq_true, Bool.and_eq_true] at this ⊢
            rcases this with h | h | h
            · exact .inl h
            · exact .inr (.inr h)
            · exact .inr (.inl h.2)
      rw [hq, up_all (n := s.size) (fun i => labels_letter (bat s i) || (((bat s i : Nat) : Int) == 58 || (decide (i ≠ 0) && labels_digit (bat s i)))) (fun i hi => ?_) ?_]
      · simp only [Option.bind_some]
        cases (List.range s.size).all fun i => labels_letter (bat s i) || (((bat s i : Nat) : Int) == 58 || (decide (i ≠ 0) && labels_digit (bat s i))) <;> rfl
      · unfold tocsinref04_Metric_l24
        rw [show decide ((s.size : Int) < (s.size : Int)) = false from decide_eq_false (by omega)]
        rfl
      · unfold tocsinref04_Metric_l24
        rw [show decide ((i : Int) < (s.size : Int)) = true from decide_eq_true (by omega)]
        have el : ∀ c, tocsinref04_letter c = labels_letter c := fun _ => rfl
        have ed : ∀ c, tocsinref04_digit c = labels_digit c := fun _ => rfl
        simp only [cond_true, bx_bat hi, Option.bind_some, wrap_up (show i < 4294967296 by omega), el, ed]
        by_cases hi0 : i = 0
        · subst hi0
          cases labels_letter ((bat s 0 : Nat) : Int) <;> cases h58 : (((bat s 0 : Nat) : Int) == 58) <;> simp [bne, h58]
        · have e2 : ((i : Int) == 0) = false := by rw [beq_eq_false_iff_ne]; omega
          simp only [e2, hi0, cond_false]
          cases labels_letter ((bat s i : Nat) : Int) <;> cases h58 : (((bat s i : Nat) : Int) == 58) <;> cases labels_digit ((bat s i : Nat) : Int) <;> simp [bne, h58, hi0]
    · have e1 : decide ((s.size : Int) > 256) = true := decide_eq_true (by omega)
      simp only [e1, h1, Bool.or_true, cond_true, decide_false, Bool.false_and, Bool.and_false]
end Go.Proofs.YtjkkmbjkndageaaDoor
