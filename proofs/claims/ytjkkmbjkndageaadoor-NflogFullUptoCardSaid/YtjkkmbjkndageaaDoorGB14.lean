/- What plain functions come to: a calculus for 'it answers, and its answer is ..'. -/
import Derived.Test.YtjkkmbjkndageaaDoorGB12
import Derived.Test.YtjkkmbjkndageaaDoorGB13
set_option linter.unusedVariables false
set_option linter.unusedSimpArgs false
namespace Go.GB
def Ok {α : Type} (x : Option α) (Q : α → Prop) : Prop := ∃ r, x = some r ∧ Q r
theorem ok_some {α : Type} {r : α} {Q : α → Prop} (h : Q r) : Ok (some r) Q := ⟨r, rfl, h⟩
theorem ok_bind {α β : Type} {x : Option α} {f : α → Option β} {P : α → Prop} {Q : β → Prop} (h : Ok x P) (k : ∀ a, P a → Ok (f a) Q) : Ok (Option.bind x f) Q := by
  obtain ⟨a, rfl, hp⟩ := h
  exact k a hp
theorem ok_cond {α : Type} {b : Bool} {x y : Option α} {Q : α → Prop} (h : b = true → Ok x Q) (h' : b = false → Ok y Q) : Ok (bif b then x else y) Q := by
  cases b
  · exact h' rfl
  · exact h rfl
theorem ok_mono {α : Type} {x : Option α} {P Q : α → Prop} (h : Ok x P) (k : ∀ a, P a → Q a) : Ok x Q := let ⟨r, e, hp⟩ := h; ⟨r, e, k r hp⟩
theorem ok_true {α : Type} {x : Option α} {P : α → Prop} (h : Ok x P) : Ok x (fun _ => True) := ok_mono h fun _ _ => trivial
theorem ok_def {α : Type} {x : Option α} {Q : α → Prop} (h : Ok x Q) : ∃ r, x = some r := let ⟨r, e, _⟩ := h; ⟨r, e⟩
theorem ok_eq {α : Type} {x : Option α} {r : α} (h : Ok x (fun y => y = r)) : x = some r := by obtain ⟨y, e, rfl⟩ := h; exact e
theorem ok_of {α : Type} {x : Option α} {r : α} {Q : α → Prop} (h : x = some r) (hq : Q r) : Ok x Q := ⟨r, h, hq⟩
/-- A loop, by an invariant and a measure. -/
theorem ok_loop {σ ρ : Type} {body : σ → Option (σ ⊕ ρ)} {Q : ρ → Prop} (Inv : σ → Prop) (m : σ → Nat) (h : ∀ s, Inv s → Ok (body s) (fun o => match o with | .inl s' => Inv s' ∧ m s' < m s | .inr r => Q r)) : ∀ s, Inv s → Ok (loopO body s) Q := by
  intro s
  induction hm : m s using Nat.strongRecOn generalizing s with
  | _ k ih =>
    intro hs
    obtain ⟨o, e, ho⟩ := h s hs
    cases o with
    | inr r => exact ⟨r, loopO_of (.done e), ho⟩
    | inl s' =>
      obtain ⟨r, e', hr⟩ := ih (m s') (by omega) s' rfl ho.1
      exact ⟨r, loopO_of (.step e (loopR_of e')), hr⟩
/-- A loop that goes up over the numbers below n. -/
theorem ok_up {ρ : Type} {body : Int → Option (Int ⊕ ρ)} {Q : ρ → Prop} {n : Nat} (Inv : Nat → Prop) (h : ∀ i : Nat, i ≤ n → Inv i → Ok (body i) (fun o => match o with | .inl s' => s' = ((i + 1 : Nat) : Int) ∧ i < n ∧ Inv (i + 1) | .inr r => Q r)) (h0 : Inv 0) : Ok (loopO body 0) Q := by
  refine ok_loop (fun s : Int => ∃ i : Nat, s = i ∧ i ≤ n ∧ Inv i) (fun s : Int => n - s.toNat) ?_ 0 ⟨0, rfl, Nat.zero_le _, h0⟩
  rintro s ⟨i, rfl, hi, hv⟩
  refine ok_mono (h i hi hv) ?_
  intro o ho
  cases o with
  | inr r => exact ho
  | inl s' =>
    obtain ⟨rfl, h1, h2⟩ := ho
    exact ⟨⟨i + 1, rfl, h1, h2⟩, by omega⟩
theorem wrap_up {i : Nat} (h : i < 4294967296) : IntKind.wrap .i64 ((i : Int) + 1) = ((i + 1 : Nat) : Int) := by rw [wrap64 (by omega) (by omega)]; omega
theorem ix_nat {α : Type} (xs : List α) (i : Nat) : ix xs (i : Int) = xs[i]? := by simp [ix]
theorem ok_ix {α : Type} {xs : List α} {i : Nat} (h : i < xs.length) : Ok (ix xs (i : Int)) (fun x => xs[i]? = some x ∧ x ∈ xs) := ⟨xs[i], by rw [ix_nat, List.getElem?_eq_getElem h], List.getElem?_eq_getElem h, List.getElem_mem h⟩
theorem ok_bx {s : ByteArray} {i : Int} (h0 : 0 ≤ i) (h1 : i < (s.size : Int)) : Ok (bx s i) (fun c => 0 ≤ c ∧ c < 256) := ⟨byteAt s i, by unfold bx; rw [if_pos ⟨h0, h1⟩], byteAt_range s i⟩
theorem ok_sx {s : ByteArray} {l r : Int} (h0 : 0 ≤ l) (h1 : l ≤ r) (h2 : r ≤ (s.size : Int)) : Ok (sx s l r) (fun t => (t.size : Int) = r - l) := ⟨s.extract l.toNat r.toNat, by unfold sx; rw [if_pos ⟨h0, h1, h2⟩], by show ((s.extract l.toNat r.toNat).size : Int) = r - l; rw [ByteArray.size_extract]; omega⟩
theorem ok_app {α : Type} {xs ys : List α} (h : xs.length + ys.length ≤ 2147483648) : Ok (app xs ys) (fun z => z = xs ++ ys) := ⟨xs ++ ys, by unfold app maxLen'; rw [if_pos (by simpa using h)], rfl⟩
theorem ok_sb {s : ByteArray} (h : s.size ≤ 2147483648) : Ok (sb s) (fun l => l = bytesOf s) := ⟨bytesOf s, by unfold sb maxLen'; rw [if_pos h], rfl⟩
theorem size_zero_iff {s : ByteArray} : (s.toList == (⟨#[]⟩ : ByteArray).toList) = decide (s.size = 0) := by
  rw [ByteArray.toList_eq, ByteArray.toList_eq]
  obtain ⟨⟨l⟩⟩ := s
  cases l <;> rfl
theorem toList_inj {a b : ByteArray} : (a.toList == b.toList) = true ↔ a = b := by
  rw [ByteArray.toList_eq, ByteArray.toList_eq]
  obtain ⟨⟨x⟩⟩ := a
  obtain ⟨⟨y⟩⟩ := b
  simp
end Go.GB
