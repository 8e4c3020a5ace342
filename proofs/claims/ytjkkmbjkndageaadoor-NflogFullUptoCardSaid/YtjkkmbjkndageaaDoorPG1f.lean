/- Plain laws of chapter 4: lists alike, lists that are gathered, label sets that are sorted. -/
import Derived.Test.YtjkkmbjkndageaaDoorPB2f
set_option linter.unusedVariables false
set_option linter.unusedSimpArgs false
set_option maxRecDepth 100000
namespace Go.Proofs.YtjkkmbjkndageaaDoor
open Go.GB Go.Lib
abbrev LB := S53
/-- A loop over a list that gathers. -/
theorem fold_up {α β ρ : Type} {body : β × Int → Option ((β × Int) ⊕ ρ)} (l : List α) (f : β → α → β) (g : β → ρ) (Inv : β → Nat → Prop)
    (h : ∀ (acc : β) (i : Nat) (hi : i < l.length), Inv acc i → body (acc, (i : Int)) = some (.inl (f acc l[i], ((i + 1 : Nat) : Int))) ∧ Inv (f acc l[i]) (i + 1))
    (he : ∀ acc, Inv acc l.length → body (acc, (l.length : Int)) = some (.inr (g acc))) :
    ∀ (d i : Nat) (acc : β), l.length - i = d → i ≤ l.length → Inv acc i → loopO body (acc, (i : Int)) = some (g ((l.drop i).foldl f acc)) := by
  intro d
  induction d with
  | zero =>
    intro i acc hd hi hI
    obtain rfl : i = l.length := by omega
    rw [List.drop_length]
    exact loopO_done (he acc hI)
  | succ d ih =>
    intro i acc hd hi hI
    have hlt : i < l.length := by omega
    obtain ⟨h1, h2⟩ := h acc i hlt hI
    rw [List.drop_eq_getElem_cons hlt, List.foldl_cons, loopO_step h1]
    exact ih (i + 1) _ (by omega) (by omega) h2
theorem fold_filter {α : Type} (p : α → Bool) : ∀ (l acc : List α), l.foldl (fun acc x => bif p x then acc ++ [x] else acc) acc = acc ++ l.filter p
  | [], acc => by simp
  | x :: l, acc => by
    rw [List.foldl_cons, fold_filter p l]
    cases h : p x <;> simp [h]
/-- A loop that gathers those of a kind. -/
theorem filter_up {α ρ : Type} {body : List α × Int → Option ((List α × Int) ⊕ ρ)} (l : List α) (p : α → Bool) (g : List α → ρ) (hl : l.length ≤ 2147483648)
    (h : ∀ (acc : List α) (i : Nat) (hi : i < l.length), acc.length ≤ i → body (acc, (i : Int)) = some (.inl ((bif p l[i] then acc ++ [l[i]] else acc), ((i + 1 : Nat) : Int))))
    (he : ∀ acc, body (acc, (l.length : Int)) = some (.inr (g acc))) : loopO body ([], 0) = some (g (l.filter p)) := by
  have := fold_up (body := body) l (fun acc x => bif p x then acc ++ [x] else acc) g (fun acc i => acc.length ≤ i) (fun acc i hi hI => ⟨h acc i hi hI, by cases p l[i] <;> simp <;> omega⟩) (fun acc _ => he acc) l.length 0 [] (by omega) (by omega) (by simp)
  rw [List.drop_zero, fold_filter, List.nil_append] at this
  exact this
/-- Is there one of a kind? -/
theorem up_any {ρ : Type} {body : Int → Option (Int ⊕ (Unit ⊕ ρ))} {n : Nat} (q : Nat → Bool) (v : ρ) (h : ∀ i : Nat, i < n → body i = some (bif q i then .inr (.inr v) else .inl ((i + 1 : Nat) : Int))) (he : body n = some (.inr (.inl ()))) :
    loopO body 0 = some (bif (List.range n).any q then .inr v else .inl ()) := by
  rw [up_find (fun i => if q i then some v else none) (fun i hi => by rw [h i hi]; cases q i <;> rfl) he]
  congr 1
  cases ha : (List.range n).any q with
  | true =>
    obtain ⟨i, hi, hq⟩ := List.any_eq_true.1 ha
    cases hf : (List.range n).findSome? (fun i => if q i then some v else none) with
    | none =>
      rw [List.findSome?_eq_none_iff] at hf
      have := hf i hi
      rw [if_pos hq] at this; cases this
    | some b =>
      obtain ⟨j, _, hj⟩ := List.exists_of_findSome?_eq_some hf
      split at hj
      · cases hj; rfl
      · cases hj
  | false =>
    rw [List.any_eq_false] at ha
    have : (List.range n).findSome? (fun i => if q i then some v else none) = none := by
      rw [List.findSome?_eq_none_iff]
      intro i hi
      rw [if_neg (ha i hi)]
    rw [this]; rfl
theorem any_range {α : Type} (l : List α) (f : α → Bool) : ((List.range l.length).any fun i => (l[i]?).any f) = l.any f := by
  rw [Bool.eq_iff_iff, List.any_eq_true, List.any_eq_true]
  constructor
  · rintro ⟨i, hi, h⟩
    have hi' := List.mem_range.1 hi
    rw [List.getElem?_eq_getElem hi', Option.any_some] at h
    exact ⟨l[i], List.getElem_mem hi', h⟩
  · rintro ⟨x, hx, h⟩
    obtain ⟨i, hi, rfl⟩ := List.getElem_of_mem hx
    exact ⟨i, List.mem_range.2 hi, by rw [List.getElem?_eq_getElem hi, Option.any_some]; exact h⟩
theorem LB_ext {x y : LB} : ((x.f0.toList == y.f0.toList) && (x.f1.toList == y.f1.toList)) = true ↔ x = y := by
  rw [Bool.and_eq_true, toList_inj, toList_inj]
  constructor
  · rintro ⟨h1, h2⟩
    cases x; cases y; simp only at h1 h2; rw [h1, h2]
  · rintro rfl; exact ⟨rfl, rfl⟩
end Go.Proofs.YtjkkmbjkndageaaDoor
