/- Plain laws, base: loops that are one another's image. -/
import Derived.Test.YtjkkmbjkndageaaDoorPA3
set_option linter.unusedVariables false
set_option linter.unusedSimpArgs false
namespace Go.GB
theorem loopR_map {σ ρ ρ' : Type} {b : σ → Option (σ ⊕ ρ)} {b' : σ → Option (σ ⊕ ρ')} (φ : ρ → ρ') (h : ∀ s, b' s = (b s).map (Sum.map id φ)) {s : σ} {r : ρ} (hr : LoopR b s r) : LoopR b' s (φ r) := by
  induction hr with
  | done h1 => exact .done (by rw [h, h1]; rfl)
  | step h1 _ ih => exact .step (by rw [h, h1]; rfl) ih
theorem loopR_unmap {σ ρ ρ' : Type} {b : σ → Option (σ ⊕ ρ)} {b' : σ → Option (σ ⊕ ρ')} (φ : ρ → ρ') (h : ∀ s, b' s = (b s).map (Sum.map id φ)) {s : σ} {r' : ρ'} (hr : LoopR b' s r') : ∃ r, LoopR b s r ∧ r' = φ r := by
  induction hr with
  | @done s r' h1 =>
    rw [h] at h1
    cases hb : b s with
    | none => rw [hb] at h1; cases h1
    | some o =>
      rw [hb] at h1
      cases o with
      | inl x => cases h1
      | inr r => cases h1; exact ⟨r, .done hb, rfl⟩
  | @step s s' r' h1 _ ih =>
    rw [h] at h1
    cases hb : b s with
    | none => rw [hb] at h1; cases h1
    | some o =>
      rw [hb] at h1
      cases o with
      | inl x =>
        cases h1
        obtain ⟨r, h2, h3⟩ := ih
        exact ⟨r, .step hb h2, h3⟩
      | inr r => cases h1
/-- A loop that goes as another one, but tells its ends in other words. -/
theorem loopO_map {σ ρ ρ' : Type} {b : σ → Option (σ ⊕ ρ)} {b' : σ → Option (σ ⊕ ρ')} (φ : ρ → ρ') (h : ∀ s, b' s = (b s).map (Sum.map id φ)) (s : σ) : loopO b' s = (loopO b s).map φ := by
  cases h1 : loopO b s with
  | some r => exact loopO_of (loopR_map φ h (loopR_of h1))
  | none =>
    cases h2 : loopO b' s with
    | none => rfl
    | some r' =>
      obtain ⟨r, h3, _⟩ := loopR_unmap φ h (loopR_of h2)
      rw [loopO_of h3] at h1; cases h1
end Go.GB
