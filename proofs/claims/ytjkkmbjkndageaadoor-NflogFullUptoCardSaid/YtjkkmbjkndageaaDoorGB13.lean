/- Functions that can be run out: twins with a bound on rounds. -/
import Derived.Test.YtjkkmbjkndageaaDoorGB1
set_option linter.unusedVariables false
set_option linter.unusedSimpArgs false
namespace Go.GB
def loopF {σ ρ : Type} : Nat → (σ → Option (σ ⊕ ρ)) → σ → Option ρ
  | 0, _, _ => none
  | n + 1, body, s => match body s with
    | none => none
    | some (.inr r) => some r
    | some (.inl s') => loopF n body s'
def OLe {α : Type} (x y : Option α) : Prop := ∀ r, x = some r → y = some r
theorem OLe.refl {α : Type} (x : Option α) : OLe x x := fun _ h => h
theorem OLe.bind {α β : Type} {x y : Option α} {f g : α → Option β} (h : OLe x y) (hf : ∀ a, OLe (f a) (g a)) : OLe (Option.bind x f) (Option.bind y g) := fun r hr => by
  obtain ⟨a, ha, hb⟩ := bind_some hr
  rw [h a ha]; exact hf a r hb
theorem OLe.cond {α : Type} {b : Bool} {x y x' y' : Option α} (h : OLe x x') (h' : OLe y y') : OLe (bif b then x else y) (bif b then x' else y') := by
  cases b
  · exact h'
  · exact h
theorem OLe.alts {α β γ : Type} {j : α ⊕ β} {f f' : α → Option γ} {g g' : β → Option γ} (h : ∀ a, OLe (f a) (f' a)) (h' : ∀ b, OLe (g b) (g' b)) : OLe (match j with | .inl a => f a | .inr b => g b) (match j with | .inl a => f' a | .inr b => g' b) := by
  cases j
  · exact h _
  · exact h' _
theorem loopF_R {σ ρ : Type} {body body' : σ → Option (σ ⊕ ρ)} (h : ∀ s, OLe (body s) (body' s)) : ∀ (n : Nat) (s : σ) (r : ρ), loopF n body s = some r → LoopR body' s r
  | 0, _, _, hr => by cases hr
  | n + 1, s, r, hr => by
    unfold loopF at hr
    cases hb : body s with
    | none => rw [hb] at hr; cases hr
    | some o =>
      rw [hb] at hr
      cases o with
      | inl s' => exact .step (h s _ hb) (loopF_R h n s' r hr)
      | inr r' => cases hr; exact .done (h s _ hb)
theorem OLe.loop {σ ρ : Type} {body body' : σ → Option (σ ⊕ ρ)} {n : Nat} {s : σ} (h : ∀ s, OLe (body s) (body' s)) : OLe (loopF n body s) (loopO body' s) := fun r hr => loopO_of (loopF_R h n s r hr)

/-! ### Loops that go up -/
theorem up_def {ρ : Type} {body : Int → Option (Int ⊕ ρ)} {n : Nat} (h : ∀ i : Nat, i < n → body i = some (.inl ((i + 1 : Nat) : Int)) ∨ ∃ r, body i = some (.inr r)) (he : ∃ r, body n = some (.inr r)) : ∀ i : Nat, i ≤ n → ∃ r, loopO body i = some r := by
  intro i hi
  induction hd : n - i generalizing i with
  | zero =>
    have : i = n := by omega
    subst this
    obtain ⟨r, hr⟩ := he
    exact ⟨r, loopO_of (.done hr)⟩
  | succ d ih =>
    rcases h i (by omega) with h1 | ⟨r, hr⟩
    · obtain ⟨r, hr⟩ := ih (i + 1) (by omega) (by omega)
      exact ⟨r, loopO_of (.step h1 (loopR_of hr))⟩
    · exact ⟨r, loopO_of (.done hr)⟩
/-- A loop that goes up, told by an invariant on its states. -/
theorem up_inv {σ ρ : Type} {body : σ → Option (σ ⊕ ρ)} (st : Nat → σ) {n : Nat} {r : ρ} (h : ∀ i : Nat, i < n → body (st i) = some (.inl (st (i + 1)))) (he : body (st n) = some (.inr r)) : ∀ i : Nat, i ≤ n → loopO body (st i) = some r := by
  intro i hi
  induction hd : n - i generalizing i with
  | zero =>
    have : i = n := by omega
    subst this
    exact loopO_of (.done he)
  | succ d ih => exact loopO_of (.step (h i (by omega)) (loopR_of (ih (i + 1) (by omega) (by omega))))
end Go.GB
