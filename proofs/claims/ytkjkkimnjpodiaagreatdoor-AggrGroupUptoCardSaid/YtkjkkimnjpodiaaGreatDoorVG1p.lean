/- AggrGroup: the group of a label set is the document's. -/
import Derived.Test.YtkjkkimnjpodiaaGreatDoorPA2p
import Derived.Test.YtkjkkimnjpodiaaGreatDoorGB33p
import Derived.KernelRfl
import Derived.Lib.LaidU8T
import Derived.Shelf.Unicode.ValidAny
/- Plain laws: names, values, label sets: the program's are the document's. -/
set_option linter.unusedVariables false
set_option linter.unusedSimpArgs false
set_option maxRecDepth 100000
namespace Go.Proofs.YtkjkkimnjpodiaaGreatDoor
open Go.GB Go.Lib
theorem ix_bytes {s : ByteArray} {i : Nat} (h : i < s.size) : ix (bytesOf s) (i : Int) = some ((bat s i : Nat) : Int) := by
  rw [ix_nat]
  unfold bytesOf bat
  have : i < s.data.toList.length := by rw [size_list]; exact h
  rw [List.getElem?_map, List.getElem?_eq_getElem this, List.getD_eq_getElem?_getD, List.getElem?_eq_getElem this]
  rfl
noncomputable def namedB (s : ByteArray) (most : Nat) (colon : Bool) : Bool := decide (s.size ≠ 0) && (decide (s.size ≤ most) && (!labels_digit (bat s 0) && (List.range s.size).all fun i => labels_letter (bat s i) || (labels_digit (bat s i) || (colon && ((bat s i : Nat) : Int) == 58))))
theorem named_eq (s : ByteArray) {most : Nat} (hm : most ≤ 2147483648) (colon : Bool) : labels_named s (most : Int) colon = some (namedB s most colon) := by
  unfold labels_named namedB
  rw [nil_size]
  by_cases h0 : s.size = 0
  · simp [h0]
  · by_cases h1 : s.size ≤ most
    · have e1 : decide ((s.size : Int) > (most : Int)) = false := decide_eq_false (by omega)
      have e2 : bx s 0 = some ((bat s 0 : Nat) : Int) := bx_bat (i := 0) (by omega)
      simp only [h0, decide_false, cond_false, e1, e2, Option.bind_some, not_false_eq_true, ne_eq, decide_true, h1, Bool.true_and]
      cases hd : labels_digit ((bat s 0 : Nat) : Int) with
      | true => simp
      | false =>
        have e3 : sb s = some (bytesOf s) := by unfold sb maxLen'; rw [if_pos (by omega)]
        simp only [cond_false, e3, Option.bind_some, Bool.not_false, Bool.true_and]
        rw [up_all (n := s.size) (fun i => labels_letter (bat s i) || (labels_digit (bat s i) || (colon && ((bat s i : Nat) : Int) == 58))) (fun i hi => ?_) ?_]
        · simp only [Option.bind_some]
          cases (List.range s.size).all fun i => labels_letter (bat s i) || (labels_digit (bat s i) || (colon && ((bat s i : Nat) : Int) == 58)) <;> rfl
        · unfold labels_named_l33
          rw [show decide ((s.size : Int) < ((bytesOf s).length : Int)) = false from decide_eq_false (by rw [bytesOf_length]; omega)]
          rfl
        · unfold labels_named_l33
          rw [show decide ((i : Int) < ((bytesOf s).length : Int)) = true from decide_eq_true (by rw [bytesOf_length]; omega)]
          simp only [cond_true, ix_bytes hi, Option.bind_some, wrap_up (show i < 4294967296 by omega)]
          cases labels_letter ((bat s i : Nat) : Int) <;> cases labels_digit ((bat s i : Nat) : Int) <;> cases (colon && ((bat s i : Nat) : Int) == 58) <;> rfl
    · have e1 : decide ((s.size : Int) > (most : Int)) = true := decide_eq_true (by omega)
      simp only [h0, h1, decide_false, decide_true, cond_false, e1, cond_true, Option.bind_some, ne_eq, not_false_eq_true, Bool.false_and, Bool.and_false]
theorem Name_eq (s : ByteArray) : labels_Name s = some (namedB s 64 false) := by
  unfold labels_Name
  rw [show (64 : Int) = ((64 : Nat) : Int) from rfl, named_eq s (by omega) false]
  rfl
theorem let_not_dig (c : Int) : labels_letter c = true → labels_digit c = false := by
  unfold labels_letter labels_digit
  intro h
  rw [Bool.eq_false_iff]
  simp only [Bool.or_eq_true, Bool.and_eq_true, decide_eq_true_eq, beq_iff_eq] at h
  simp only [ne_eq, Bool.and_eq_true, decide_eq_true_eq]
  omega
theorem refName_eq (s : ByteArray) : tocsinref04_Name s = some (namedB s 64 false) := by
  unfold tocsinref04_Name namedB
  rw [nil_size]
  by_cases h0 : s.size = 0
  · simp [h0]
  · by_cases h1 : s.size ≤ 64
    · have e1 : decide ((s.size : Int) > 64) = false := decide_eq_false (by omega)
      simp only [h0, decide_false, e1, Bool.or_self, cond_false, not_false_eq_true, ne_eq, decide_true, h1, Bool.true_and]
      have hq : (!labels_digit ((bat s 0 : Nat) : Int) && (List.range s.size).all fun i => labels_letter (bat s i) || (labels_digit (bat s i) || (false && ((bat s i : Nat) : Int) == 58))) = (List.range s.size).all fun i => labels_letter (bat s i) || (decide (i ≠ 0) && labels_digit (bat s i)) := by
        rw [Bool.eq_iff_iff, Bool.and_eq_true, List.all_eq_true, List.all_eq_true]
        constructor
        · rintro ⟨h2, h3⟩ i hi
          have := h3 i hi
          by_cases hi0 : i = 0
          · subst hi0
            simp only [Bool.not_eq_true'] at h2
            simpa [h2] using this
          · simpa [hi0] using this
        · intro h3
          refine ⟨?_, fun i hi => ?_⟩
          · have := h3 0 (List.mem_range.2 (by omega))
            simp only [ne_eq, not_true_eq_false, decide_false, Bool.false_and, Bool.or_false] at this
            rw [let_not_dig _ this]; rfl
          · have := h3 i hi
            simp only [Bool.or_eq_true, Bool.and_eq_true] at this ⊢
            rcases this with h | h
            · exact .inl h
            · exact .inr (.inl h.2)
      rw [hq, up_all (n := s.size) (fun i => labels_letter (bat s i) || (decide (i ≠ 0) && labels_digit (bat s i))) (fun i hi => ?_) ?_]
      · simp only [Option.bind_some]
        cases (List.range s.size).all fun i => labels_letter (bat s i) || (decide (i ≠ 0) && labels_digit (bat s i)) <;> rfl
      · unfold tocsinref04_Name_l24
        rw [show decide ((s.size : Int) < (s.size : Int)) = false from decide_eq_false (by omega)]
        rfl
      · unfold tocsinref04_Name_l24
        rw [show decide ((i : Int) < (s.size : Int)) = true from decide_eq_true (by omega)]
        have el : ∀ c, tocsinref04_letter c = labels_letter c := fun _ => rfl
        have ed : ∀ c, tocsinref04_digit c = labels_digit c := fun _ => rfl
        simp only [cond_true, bx_bat hi, Option.bind_some, wrap_up (show i < 4294967296 by omega), el, ed]
        by_cases hi0 : i = 0
        · subst hi0
          cases labels_letter ((bat s 0 : Nat) : Int) <;> rfl
        · have e2 : ((i : Int) == 0) = false := by rw [beq_eq_false_iff_ne]; omega
          simp only [e2, hi0, cond_false]
          cases labels_letter ((bat s i : Nat) : Int) <;> cases labels_digit ((bat s i : Nat) : Int) <;> simp [hi0]
    · have e1 : decide ((s.size : Int) > 64) = true := decide_eq_true (by omega)
      simp only [e1, h1, Bool.or_true, cond_true, decide_false, Bool.false_and, Bool.and_false]
noncomputable def valueE (s : ByteArray) : Int := if s.size = 0 then 41 else if s.size > 256 then 4 else if validD s.data.toList then 0 else 12
theorem value_eq (s : ByteArray) : labels_value s = some (valueE s) := by
  unfold labels_value valueE
  rw [nil_size]
  by_cases h0 : s.size = 0
  · simp [h0]
  · by_cases h1 : s.size > 256
    · simp [h0, h1, show decide ((s.size : Int) > 256) = true from decide_eq_true (by omega)]
    · have e1 : decide ((s.size : Int) > 256) = false := decide_eq_false (by omega)
      simp only [h0, decide_false, cond_false, e1, valid_eq (show s.size < 4611686018427387904 by omega), Option.bind_some, if_false, h1]
      cases validD s.data.toList <;> rfl
noncomputable def oneE (x : S76) : Int := if namedB x.f0 64 false then valueE x.f1 else 40
theorem refOne_eq (x : S76) : tocsinref04_one x = some (oneE x) := by
  unfold tocsinref04_one oneE
  rw [refName_eq, nil_size]
  simp only [Option.bind_some]
  cases namedB x.f0 64 false with
  | false => rfl
  | true =>
    simp only [Bool.not_true, cond_false, if_true]
    unfold valueE
    by_cases h0 : x.f1.size = 0
    · simp [h0]
    · by_cases h1 : x.f1.size > 256
      · simp [h0, h1, show decide ((x.f1.size : Int) > 256) = true from decide_eq_true (by omega)]
      · have e1 : decide ((x.f1.size : Int) > 256) = false := decide_eq_false (by omega)
        simp only [h0, decide_false, cond_false, e1, refUtf8_eq (show x.f1.size < 4611686018427387904 by omega), Option.bind_some, if_false, h1]
        cases validD x.f1.data.toList <;> rfl
/-- The first fault of a label set, at a place. -/
noncomputable def faultAt (l : List S76) (i : Nat) : Option (Int × Int) := match l[i]? with
  | none => none
  | some x => if oneE x ≠ 0 then some (oneE x, (i : Int)) else if i = 0 then none else match l[i - 1]? with
    | none => none
    | some y => if cmpS y.f0 x.f0 = -1 then none else some (3, (i : Int))
noncomputable def rightE (l : List S76) : Int × Int := if l.length > 16 then (8, 0) else ((List.range l.length).findSome? (faultAt l)).getD (0, 0)
theorem oneE_ne {x : S76} (h : namedB x.f0 64 false = false) : oneE x = 40 := by unfold oneE; rw [h]; rfl
theorem ix_prev {α : Type} {l : List α} {i : Nat} (h0 : 0 < i) (hi : i < 4294967296) : ix l (IntKind.wrap .i64 ((i : Int) - 1)) = l[i - 1]? := by
  rw [wrap64 (by omega) (by omega), show (i : Int) - 1 = ((i - 1 : Nat) : Int) by omega, ix_nat]
theorem Right_eq (l : List S76) : labels_Right l = some (rightE l) := by
  unfold labels_Right rightE
  by_cases hl : l.length > 16
  · simp [hl, show decide ((l.length : Int) > 16) = true from decide_eq_true (by omega)]
  · rw [show decide ((l.length : Int) > 16) = false from decide_eq_false (by omega), if_neg hl]
    simp only [cond_false]
    rw [up_find (n := l.length) (faultAt l) (fun i hi => ?_) ?_]
    · simp only [Option.bind_some]
      cases (List.range l.length).findSome? (faultAt l) <;> rfl
    · unfold labels_Right_l18
      rw [show decide ((l.length : Int) < (l.length : Int)) = false from decide_eq_false (by omega)]
      rfl
    · unfold labels_Right_l18 faultAt
      have hx : l[i]? = some l[i] := List.getElem?_eq_getElem hi
      rw [show decide ((i : Int) < (l.length : Int)) = true from decide_eq_true (by omega)]
      simp only [cond_true, ix_nat, hx, Option.bind_some, Name_eq, value_eq]
      cases hn : namedB l[i].f0 64 false with
      | false => rw [oneE_ne hn]; rfl
      | true =>
        have ho : oneE l[i] = valueE l[i].f1 := by unfold oneE; rw [hn]; rfl
        rw [ho]
        simp only [Bool.not_true, cond_false]
        by_cases hv : valueE l[i].f1 = 0
        · have e2 : (valueE l[i].f1 != 0) = false := by simp [hv]
          rw [if_neg (by simpa using hv)]
          simp only [e2, cond_false, wrap_up (show i < 4294967296 by omega)]
          by_cases hi0 : i = 0
          · subst hi0
            simp
          · have e3 : decide ((i : Int) > 0) = true := decide_eq_true (by omega)
            have hy : l[i - 1]? = some (l[i - 1]'(by omega)) := List.getElem?_eq_getElem (by omega)
            rw [if_neg hi0]
            simp only [e3, cond_true, ix_prev (show 0 < i by omega) (show i < 4294967296 by omega), hy, Option.bind_some, less_eq, beq_eq]
            have hs := cmpS_swap (l[i - 1]'(by omega)).f0 l[i].f0
            have hr := cmpS_range (l[i - 1]'(by omega)).f0 l[i].f0
            by_cases hc : cmpS (l[i - 1]'(by omega)).f0 l[i].f0 = -1
            · rw [if_pos hc]
              have : (decide (cmpS l[i].f0 (l[i - 1]'(by omega)).f0 = -1) || decide (cmpS l[i].f0 (l[i - 1]'(by omega)).f0 = 0)) = false := by
                rw [Bool.eq_false_iff]; simp only [ne_eq, Bool.or_eq_true, decide_eq_true_eq]; omega
              rw [this]; rfl
            · rw [if_neg hc]
              have : (decide (cmpS l[i].f0 (l[i - 1]'(by omega)).f0 = -1) || decide (cmpS l[i].f0 (l[i - 1]'(by omega)).f0 = 0)) = true := by
                simp only [Bool.or_eq_true, decide_eq_true_eq]; omega
              rw [this]; rfl
        · have e2 : (valueE l[i].f1 != 0) = true := by simpa using hv
          rw [if_pos hv]
          simp only [e2, cond_true]
theorem refRight_eq (l : List S76) : tocsinref04_Right l = some (rightE l) := by
  unfold tocsinref04_Right rightE
  by_cases hl : l.length > 16
  · simp [hl, show decide ((l.length : Int) > 16) = true from decide_eq_true (by omega)]
  · rw [show decide ((l.length : Int) > 16) = false from decide_eq_false (by omega), if_neg hl]
    simp only [cond_false]
    rw [up_find (n := l.length) (faultAt l) (fun i hi => ?_) ?_]
    · simp only [Option.bind_some]
      cases (List.range l.length).findSome? (faultAt l) <;> rfl
    · unfold tocsinref04_Right_l18
      rw [show decide ((l.length : Int) < (l.length : Int)) = false from decide_eq_false (by omega)]
      rfl
    · unfold tocsinref04_Right_l18 faultAt
      have hx : l[i]? = some l[i] := List.getElem?_eq_getElem hi
      rw [show decide ((i : Int) < (l.length : Int)) = true from decide_eq_true (by omega)]
      simp only [cond_true, ix_nat, hx, Option.bind_some, refOne_eq]
      by_cases hv : oneE l[i] = 0
      · have e2 : (oneE l[i] != 0) = false := by simp [hv]
        rw [if_neg (by simpa using hv)]
        simp only [e2, cond_false, wrap_up (show i < 4294967296 by omega)]
        by_cases hi0 : i = 0
        · subst hi0
          simp
        · have e3 : decide ((i : Int) > 0) = true := decide_eq_true (by omega)
          have hy : l[i - 1]? = some (l[i - 1]'(by omega)) := List.getElem?_eq_getElem (by omega)
          rw [if_neg hi0]
          simp only [e3, cond_true, ix_prev (show 0 < i by omega) (show i < 4294967296 by omega), hy, Option.bind_some, less_eq]
          by_cases hc : cmpS (l[i - 1]'(by omega)).f0 l[i].f0 = -1
          · rw [if_pos hc, decide_eq_true hc]; rfl
          · rw [if_neg hc, decide_eq_false hc]; rfl
      · have e2 : (oneE l[i] != 0) = true := by simpa using hv
        rw [if_pos hv]
        simp only [e2, cond_true]
end Go.Proofs.YtkjkkimnjpodiaaGreatDoor

/- Plain laws, base: words of bits; numbers in few bytes. -/
set_option linter.unusedVariables false
set_option linter.unusedSimpArgs false
namespace Go.GB
theorem app_eq {α : Type} {xs ys : List α} (h : xs.length + ys.length ≤ 2147483648) : app xs ys = some (xs ++ ys) := by unfold app maxLen'; rw [if_pos (by simpa using h)]
end Go.GB

/- Stable sorting: what is a stable sort of a list, and that there is one alone. -/
set_option linter.unusedVariables false
set_option linter.unusedSimpArgs false
namespace Go.GB
section
variable {α : Type}
/-- A strict weak order. -/
structure Swo (lt : α → α → Bool) : Prop where
  asymm : ∀ a b, lt a b = true → lt b a = false
  trans : ∀ a b c, lt b a = false → lt c b = false → lt c a = false
variable {lt : α → α → Bool}
theorem Swo.irrefl (h : Swo lt) (a : α) : lt a a = false := by
  cases e : lt a a with
  | false => rfl
  | true => have := h.asymm a a e; rw [e] at this; exact this
def eqv (lt : α → α → Bool) (k x : α) : Bool := !lt k x && !lt x k
theorem eqv_iff {k x : α} : eqv lt k x = true ↔ lt k x = false ∧ lt x k = false := by simp [eqv]
theorem Swo.eqv_self (h : Swo lt) (a : α) : eqv lt a a = true := by simp [eqv, h.irrefl]
def Sorted (lt : α → α → Bool) (l : List α) : Prop := l.Pairwise fun a b => lt b a = false
def FE (lt : α → α → Bool) (l m : List α) : Prop := ∀ k, l.filter (eqv lt k) = m.filter (eqv lt k)
theorem FE.refl (l : List α) : FE lt l l := fun _ => rfl
theorem FE.symm {l m : List α} (h : FE lt l m) : FE lt m l := fun k => (h k).symm
theorem FE.trans {l m n : List α} (h : FE lt l m) (h' : FE lt m n) : FE lt l n := fun k => (h k).trans (h' k)
theorem FE.append {l m l' m' : List α} (h : FE lt l m) (h' : FE lt l' m') : FE lt (l ++ l') (m ++ m') := fun k => by rw [List.filter_append, List.filter_append, h k, h' k]
theorem FE.mem (hs : Swo lt) {l m : List α} (h : FE lt l m) {x : α} (hx : x ∈ l) : x ∈ m := by
  have : x ∈ l.filter (eqv lt x) := List.mem_filter.2 ⟨hx, hs.eqv_self x⟩
  rw [h x] at this
  exact (List.mem_filter.1 this).1
/-- Two parts of which one stands all below the other change places. -/
theorem FE.swap (hs : Swo lt) {X Y : List α} (h : ∀ x ∈ X, ∀ y ∈ Y, lt y x = true) : FE lt (X ++ Y) (Y ++ X) := fun k => by
  rw [List.filter_append, List.filter_append]
  by_cases hx : X.filter (eqv lt k) = []
  · rw [hx]; simp
  · have hy : Y.filter (eqv lt k) = [] := by
      rw [List.filter_eq_nil_iff]
      intro y hy hk
      obtain ⟨x, hx'⟩ := List.exists_mem_of_ne_nil _ hx
      obtain ⟨hxX, hxk⟩ := List.mem_filter.1 hx'
      have h1 := h x hxX y hy
      have h2 := hs.trans x k y (eqv_iff.1 hxk).1 (eqv_iff.1 hk).2
      rw [h1] at h2; cases h2
    rw [hy]; simp
/-- m is l, stably sorted. -/
def StS (lt : α → α → Bool) (l m : List α) : Prop := FE lt m l ∧ Sorted lt m
theorem FE.length (hs : Swo lt) : ∀ (n : Nat) {a b : List α}, a.length = n → FE lt a b → b.length = n
  | 0, a, b, hn, h => by
    cases b with
    | nil => rfl
    | cons y b => have := h.symm.mem hs (x := y) (by simp); rw [List.length_eq_zero_iff.1 hn] at this; cases this
  | n + 1, a, b, hn, h => by
    cases a with
    | nil => cases hn
    | cons x a =>
      have hx := h.mem hs (x := x) (by simp)
      have hne : b.filter (eqv lt x) ≠ [] := fun e => by
        have : x ∈ b.filter (eqv lt x) := List.mem_filter.2 ⟨hx, hs.eqv_self x⟩
        rw [e] at this; cases this
      -- the first of x's class in b is x
      have e1 := h x
      rw [List.filter_cons_of_pos (hs.eqv_self x)] at e1
      obtain ⟨b1, b2, hb, hb1⟩ : ∃ b1 b2, b = b1 ++ x :: b2 ∧ ∀ z ∈ b1, eqv lt x z = false := by
        clear hn h hx hne
        induction b with
        | nil => cases e1
        | cons z b ih =>
          by_cases hz : eqv lt x z = true
          · rw [List.filter_cons_of_pos hz] at e1
            simp only [List.cons.injEq] at e1
            obtain ⟨rfl, _⟩ := e1
            exact ⟨[], b, rfl, fun z hz => by cases hz⟩
          · rw [List.filter_cons_of_neg hz] at e1
            obtain ⟨b1, b2, rfl, h1⟩ := ih e1
            exact ⟨z :: b1, b2, rfl, fun w hw => by
              rcases List.mem_cons.1 hw with rfl | hw
              · simpa using hz
              · exact h1 w hw⟩
      have h2 : FE lt a (b1 ++ b2) := fun k => by
        have e2 := h k
        rw [hb, List.filter_append] at e2
        rw [List.filter_append]
        by_cases hk : eqv lt k x = true
        · rw [List.filter_cons_of_pos hk, List.filter_cons_of_pos hk] at e2
          have h0 : b1.filter (eqv lt k) = [] := by
            rw [List.filter_eq_nil_iff]
            intro z hz hkz
            have h1 := hb1 z hz
            have h3 := eqv_iff.1 hk
            have h4 := eqv_iff.1 hkz
            have : eqv lt x z = true := eqv_iff.2 ⟨hs.trans z k x h4.1 h3.2, hs.trans x k z h3.1 h4.2⟩
            rw [this] at h1; cases h1
          rw [h0] at e2 ⊢
          simpa using e2
        · rw [List.filter_cons_of_neg hk, List.filter_cons_of_neg hk] at e2
          exact e2
      have := FE.length hs n (by simpa using hn) h2
      rw [hb]; simp at this ⊢; omega
end
end Go.GB

/- Stable sorting: the library's swaps, rotations and binary searches. -/
set_option linter.unusedVariables false
set_option linter.unusedSimpArgs false
namespace Go.GB
section
variable {α : Type} {cf : α → α → Int}
end
end Go.GB

/- Stable sorting: the library's insertion sort and merge. -/
set_option linter.unusedVariables false
set_option linter.unusedSimpArgs false
namespace Go.GB
section
variable {α : Type} {lt : α → α → Bool}
theorem Sorted.last {A : List α} {z : α} (h : Sorted lt (A ++ [z])) : ∀ a ∈ A, lt z a = false := fun a ha => (List.pairwise_append.1 h).2.2 a ha z (by simp)
theorem Sorted.head {B : List α} {y : α} (h : Sorted lt (y :: B)) : ∀ b ∈ B, lt b y = false := (List.pairwise_cons.1 h).1
theorem Sorted.left {A B : List α} (h : Sorted lt (A ++ B)) : Sorted lt A := (List.pairwise_append.1 h).1
theorem Sorted.right {A B : List α} (h : Sorted lt (A ++ B)) : Sorted lt B := (List.pairwise_append.1 h).2.1
theorem Sorted.append {A B : List α} (h : Sorted lt A) (h' : Sorted lt B) (hc : ∀ a ∈ A, ∀ b ∈ B, lt b a = false) : Sorted lt (A ++ B) := List.pairwise_append.2 ⟨h, h', hc⟩
theorem StS.self {A : List α} (h : Sorted lt A) : StS lt A A := ⟨FE.refl A, h⟩
end
section
variable {α : Type} {cf : α → α → Int}
end
end Go.GB

/- Stable sorting: the library's merge in place. -/
set_option linter.unusedVariables false
set_option linter.unusedSimpArgs false
namespace Go.GB
section
variable {α : Type} {cf : α → α → Int}
end
end Go.GB

/- Stable sorting: the whole of it. -/
set_option linter.unusedVariables false
set_option linter.unusedSimpArgs false
namespace Go.GB
section
variable {α : Type}
/-- Full runs of k elements, each sorted. -/
inductive Full (lt : α → α → Bool) (k : Nat) : List α → Prop
  | nil : Full lt k []
  | snoc {D x : List α} : Full lt k D → x.length = k → Sorted lt x → Full lt k (D ++ x)
/-- Runs of k elements, the last one may be shorter. -/
inductive Runs (lt : α → α → Bool) (k : Nat) : List α → Prop
  | last {x : List α} : x.length ≤ k → Sorted lt x → Runs lt k x
  | cons {x R : List α} : x.length = k → Sorted lt x → Runs lt k R → Runs lt k (x ++ R)
variable {lt : α → α → Bool} {k : Nat}
theorem Runs.sorted {R : List α} (h : Runs lt k R) (hk : R.length ≤ k) (hk0 : 0 < k) : Sorted lt R := by
  cases h with
  | last h1 h2 => exact h2
  | @cons x R h1 h2 h3 =>
    rw [List.length_append] at hk
    have : R = [] := List.length_eq_zero_iff.1 (by omega)
    rw [this, List.append_nil]; exact h2
theorem Runs.one {R : List α} (h : Runs lt k R) (h1 : k < R.length) (h2 : R.length < k + k) : ∃ x y, R = x ++ y ∧ x.length = k ∧ Sorted lt x ∧ Sorted lt y := by
  cases h with
  | last h3 h4 => omega
  | @cons x R h3 h4 h5 =>
    rw [List.length_append] at h1 h2
    exact ⟨x, R, rfl, h3, h4, h5.sorted (by omega) (by omega)⟩
end
section
variable {α : Type} {cf : α → α → Int}
end
end Go.GB

/- Plain laws of chapter 4: lists alike, lists that are gathered, label sets that are sorted. -/
set_option linter.unusedVariables false
set_option linter.unusedSimpArgs false
set_option maxRecDepth 100000
namespace Go.Proofs.YtkjkkimnjpodiaaGreatDoor
open Go.GB Go.Lib
abbrev LB := S76
/-- A loop over a list that gathers. -/
theorem fold_up {α β ρ : Type} {body : β × Int → Option ((β × Int) ⊕ ρ)} (l : List α) (f : β → α → β) (g : β → ρ) (Inv : β → Nat → Prop)
    (h : ∀ (acc : β) (i : Nat) (hi : i < l.length), Inv acc i → body (acc, (i : Int)) = some (.inl (f acc l[i], ((i + 1 : Nat) : Int))) ∧ Inv (f acc l[i]) (i + 1))
    (he : ∀ acc, Inv acc l.length → body (acc, (l.length : Int)) = some (.inr (g acc))) :
    ∀ (d i : Nat) (acc : β), l.length - i = d → i ≤ l.length → Inv acc i → loopO body (acc, (i : Int)) = some (g ((l.drop i).foldl f acc)) := by
  intro d
  induction d with
  | zero =>
    intro i acc hd hi hI
    obtain rfl : i = l.length := by omega
    rw [List.drop_length]
    exact loopO_done (he acc hI)
  | succ d ih =>
    intro i acc hd hi hI
    have hlt : i < l.length := by omega
    obtain ⟨h1, h2⟩ := h acc i hlt hI
    rw [List.drop_eq_getElem_cons hlt, List.foldl_cons, loopO_step h1]
    exact ih (i + 1) _ (by omega) (by omega) h2
theorem fold_filter {α : Type} (p : α → Bool) : ∀ (l acc : List α), l.foldl (fun acc x => bif p x then acc ++ [x] else acc) acc = acc ++ l.filter p
  | [], acc => by simp
  | x :: l, acc => by
    rw [List.foldl_cons, fold_filter p l]
    cases h : p x <;> simp [h]
/-- A loop that gathers those of a kind. -/
theorem filter_up {α ρ : Type} {body : List α × Int → Option ((List α × Int) ⊕ ρ)} (l : List α) (p : α → Bool) (g : List α → ρ) (hl : l.length ≤ 2147483648)
    (h : ∀ (acc : List α) (i : Nat) (hi : i < l.length), acc.length ≤ i → body (acc, (i : Int)) = some (.inl ((bif p l[i] then acc ++ [l[i]] else acc), ((i + 1 : Nat) : Int))))
    (he : ∀ acc, body (acc, (l.length : Int)) = some (.inr (g acc))) : loopO body ([], 0) = some (g (l.filter p)) := by
  have := fold_up (body := body) l (fun acc x => bif p x then acc ++ [x] else acc) g (fun acc i => acc.length ≤ i) (fun acc i hi hI => ⟨h acc i hi hI, by cases p l[i] <;> simp <;> omega⟩) (fun acc _ => he acc) l.length 0 [] (by omega) (by omega) (by simp)
  rw [List.drop_zero, fold_filter, List.nil_append] at this
  exact this
/-- Is there one of a kind? -/
theorem up_any {ρ : Type} {body : Int → Option (Int ⊕ (Unit ⊕ ρ))} {n : Nat} (q : Nat → Bool) (v : ρ) (h : ∀ i : Nat, i < n → body i = some (bif q i then .inr (.inr v) else .inl ((i + 1 : Nat) : Int))) (he : body n = some (.inr (.inl ()))) :
    loopO body 0 = some (bif (List.range n).any q then .inr v else .inl ()) := by
  rw [up_find (fun i => if q i then some v else none) (fun i hi => by rw [h i hi]; cases q i <;> rfl) he]
  congr 1
  cases ha : (List.range n).any q with
  | true =>
    obtain ⟨i, hi, hq⟩ := List.any_eq_true.1 ha
    cases hf : (List.range n).findSome? (fun i => if q i then some v else none) with
    | none =>
      rw [List.findSome?_eq_none_iff] at hf
      have := hf i hi
      rw [if_pos hq] at this; cases this
    | some b =>
      obtain ⟨j, _, hj⟩ := List.exists_of_findSome?_eq_some hf
      split at hj
      · cases hj; rfl
      · cases hj
  | false =>
    rw [List.any_eq_false] at ha
    have : (List.range n).findSome? (fun i => if q i then some v else none) = none := by
      rw [List.findSome?_eq_none_iff]
      intro i hi
      rw [if_neg (ha i hi)]
    rw [this]; rfl
theorem any_range {α : Type} (l : List α) (f : α → Bool) : ((List.range l.length).any fun i => (l[i]?).any f) = l.any f := by
  rw [Bool.eq_iff_iff, List.any_eq_true, List.any_eq_true]
  constructor
  · rintro ⟨i, hi, h⟩
    have hi' := List.mem_range.1 hi
    rw [List.getElem?_eq_getElem hi', Option.any_some] at h
    exact ⟨l[i], List.getElem_mem hi', h⟩
  · rintro ⟨x, hx, h⟩
    obtain ⟨i, hi, rfl⟩ := List.getElem_of_mem hx
    exact ⟨i, List.mem_range.2 hi, by rw [List.getElem?_eq_getElem hi, Option.any_some]; exact h⟩
end Go.Proofs.YtkjkkimnjpodiaaGreatDoor

/- Plain laws: what a right label set is made of. -/
set_option linter.unusedVariables false
set_option linter.unusedSimpArgs false
set_option maxRecDepth 100000
namespace Go.Proofs.YtkjkkimnjpodiaaGreatDoor
open Go.GB Go.Lib
theorem faultAt_ne {l : List S76} {i : Nat} {v : Int × Int} (h : faultAt l i = some v) : v.1 ≠ 0 := by
  unfold faultAt at h
  split at h
  · cases h
  · rename_i x _
    by_cases h1 : oneE x ≠ 0
    · rw [if_pos h1] at h; cases h; exact h1
    · rw [if_neg h1] at h
      split at h
      · cases h
      · split at h
        · cases h
        · split at h
          · cases h
          · cases h; show (3 : Int) ≠ 0; decide
theorem right_none {l : List S76} (h : (rightE l).1 = 0) : l.length ≤ 16 ∧ ∀ i, i < l.length → faultAt l i = none := by
  unfold rightE at h
  split at h
  · cases h
  · refine ⟨by omega, fun i hi => ?_⟩
    cases hf : (List.range l.length).findSome? (faultAt l) with
    | some v =>
      rw [hf] at h
      obtain ⟨j, _, hj⟩ := List.exists_of_findSome?_eq_some hf
      exact absurd h (faultAt_ne hj)
    | none => rw [List.findSome?_eq_none_iff] at hf; exact hf i (List.mem_range.2 hi)
theorem right_parts {l : List S76} (h : (rightE l).1 = 0) : l.length ≤ 16 ∧ ∀ x ∈ l, oneE x = 0 := by
  obtain ⟨h1, h2⟩ := right_none h
  refine ⟨h1, fun x hx => ?_⟩
  obtain ⟨i, hi, rfl⟩ := List.getElem_of_mem hx
  have := h2 i hi
  unfold faultAt at this
  rw [List.getElem?_eq_getElem hi] at this
  simp only at this
  by_cases h0 : oneE l[i] ≠ 0
  · rw [if_pos h0] at this; cases this
  · simpa using h0
end Go.Proofs.YtkjkkimnjpodiaaGreatDoor

/- Plain laws: labels whose names are among some: Keep, Without, Pick. -/
set_option linter.unusedVariables false
set_option linter.unusedSimpArgs false
set_option maxRecDepth 100000
namespace Go.Proofs.YtkjkkimnjpodiaaGreatDoor
open Go.GB Go.Lib
theorem right_eq (l : List LB) : labels_right l = some (rightE l).1 := by unfold labels_right; rw [Right_eq]; rfl
/-- The labels whose names are, are not, among some. -/
def hasB (names : List ByteArray) (s : ByteArray) : Bool := names.any fun x => (x.toList == s.toList)
theorem has_eq (names : List ByteArray) (s : ByteArray) (hn : names.length < 2147483648) : tocsinref04_has names s = some (hasB names s) := by
  unfold tocsinref04_has hasB
  rw [up_any (n := names.length) (fun j => (names[j]?).any fun y => (y.toList == s.toList)) true (fun j hj => ?_) ?_, any_range]
  · simp only [Option.bind_some]
    cases names.any fun x => (x.toList == s.toList) <;> rfl
  · unfold tocsinref04_has_l17
    rw [show decide ((names.length : Int) < (names.length : Int)) = false from decide_eq_false (by omega)]; rfl
  · unfold tocsinref04_has_l17
    rw [show decide ((j : Int) < (names.length : Int)) = true from decide_eq_true (by omega)]
    simp only [cond_true, ix_nat, List.getElem?_eq_getElem hj, Option.bind_some, wrap_up (show j < 4294967296 by omega), Option.any_some]
    cases (names[j].toList == s.toList) <;> rfl
theorem Contains_eq (names : List ByteArray) (s : ByteArray) (hn : names.length < 2147483648) : slices_Contains names s = some (hasB names s) := by
  unfold slices_Contains slices_Index hasB
  rw [up_find (n := names.length) (fun j => match names[j]? with | some y => if (s.toList == y.toList) = true then some (j : Int) else none | none => none) (fun j hj => ?_) ?_]
  · simp only [Option.bind_some]
    cases hf : (List.range names.length).findSome? (fun j => match names[j]? with | some y => if (s.toList == y.toList) = true then some (j : Int) else none | none => none) with
    | none =>
      rw [List.findSome?_eq_none_iff] at hf
      rw [show (names.any fun x => (x.toList == s.toList)) = false from by
        rw [List.any_eq_false]
        intro x hx
        obtain ⟨j, hj, rfl⟩ := List.getElem_of_mem hx
        have := hf j (List.mem_range.2 hj)
        rw [List.getElem?_eq_getElem hj] at this
        simp only at this
        split at this
        · cases this
        · rename_i h; intro e; exact h (toList_inj.2 (toList_inj.1 e).symm)]
      rfl
    | some b =>
      obtain ⟨j, hj, hjb⟩ := List.exists_of_findSome?_eq_some hf
      have hj' := List.mem_range.1 hj
      rw [List.getElem?_eq_getElem hj'] at hjb
      simp only at hjb
      split at hjb <;> try (cases hjb; done)
      rename_i h
      simp only [Option.some.injEq] at hjb
      subst hjb
      rw [show (names.any fun x => (x.toList == s.toList)) = true from List.any_eq_true.2 ⟨names[j], List.getElem_mem hj', toList_inj.2 (toList_inj.1 h).symm⟩]
      simp
  · unfold slices_Index_l17
    rw [show decide ((names.length : Int) < (names.length : Int)) = false from decide_eq_false (by omega)]; rfl
  · unfold slices_Index_l17
    rw [show decide ((j : Int) < (names.length : Int)) = true from decide_eq_true (by omega)]
    simp only [cond_true, ix_nat, List.getElem?_eq_getElem hj, Option.bind_some, wrap_up (show j < 4294967296 by omega)]
    cases (s.toList == names[j].toList) <;> rfl
theorem pick_eq (l : List LB) (b : Bool) (names : List ByteArray) (hl : l.length < 2147483648) (hn : names.length < 2147483648) : labels_pick l b names = some (l.filter fun x => (hasB names x.f0 == b)) := by
  unfold labels_pick
  rw [filter_up l (fun x => (hasB names x.f0 == b)) id (by omega) (fun acc i hi ha => ?_) (fun acc => ?_)]
  · rfl
  · unfold labels_pick_l28
    rw [show decide ((i : Int) < (l.length : Int)) = true from decide_eq_true (by omega)]
    simp only [cond_true, ix_nat, List.getElem?_eq_getElem hi, Option.bind_some, wrap_up (show i < 4294967296 by omega), Contains_eq names _ hn]
    rw [app_eq (by simp; omega)]
    cases (hasB names l[i].f0 == b) <;> rfl
  · unfold labels_pick_l28
    rw [show decide ((l.length : Int) < (l.length : Int)) = false from decide_eq_false (by omega)]; rfl
theorem refPick_eq (l : List LB) (b : Bool) (names : List ByteArray) (hl : l.length < 2147483648) (hn : names.length < 2147483648) : tocsinref04_Pick l names b = some (l.filter fun x => (hasB names x.f0 == b)) := by
  unfold tocsinref04_Pick
  rw [filter_up l (fun x => (hasB names x.f0 == b)) id (by omega) (fun acc i hi ha => ?_) (fun acc => ?_)]
  · rfl
  · unfold tocsinref04_Pick_l28
    rw [show decide ((i : Int) < (l.length : Int)) = true from decide_eq_true (by omega)]
    simp only [cond_true, ix_nat, List.getElem?_eq_getElem hi, Option.bind_some, wrap_up (show i < 4294967296 by omega), has_eq names _ hn]
    rw [app_eq (by simp; omega)]
    cases (hasB names l[i].f0 == b) <;> rfl
  · unfold tocsinref04_Pick_l28
    rw [show decide ((l.length : Int) < (l.length : Int)) = false from decide_eq_false (by omega)]; rfl
/-- What Keep and Without answer. -/
noncomputable def keepE (l : List LB) (names : List ByteArray) (b : Bool) : List LB × Int := bif (rightE l).1 != 0 then ([], (rightE l).1) else (l.filter fun x => (hasB names x.f0 == b), 0)
theorem Without_eq (l : List LB) (names : List ByteArray) (hl : l.length < 2147483640) (hn : names.length < 2147483640) : labels_Without l names = some (keepE l names false) := by
  unfold labels_Without keepE
  simp only [right_eq, Option.bind_some, pick_eq l false names (by omega) (by omega)]
  cases (rightE l).1 != 0 <;> rfl
theorem Keep_eq (l : List LB) (names : List ByteArray) (hl : l.length < 2147483640) (hn : names.length < 2147483640) : labels_Keep l names = some (keepE l names true) := by
  unfold labels_Keep keepE
  simp only [right_eq, Option.bind_some, pick_eq l true names (by omega) (by omega)]
  cases (rightE l).1 != 0 <;> rfl
theorem keepE_right {l : List LB} (h : (rightE l).1 = 0) (names : List ByteArray) (b : Bool) : keepE l names b = (l.filter fun x => (hasB names x.f0 == b), 0) := by
  unfold keepE
  rw [h]; rfl
end Go.Proofs.YtkjkkimnjpodiaaGreatDoor

/- Plain laws: label sets compared. -/
set_option linter.unusedVariables false
set_option linter.unusedSimpArgs false
set_option maxRecDepth 100000
namespace Go.Proofs.YtkjkkimnjpodiaaGreatDoor
open Go.GB Go.Lib
def cmpX (x y : S76) : Int := if cmpS x.f0 y.f0 ≠ 0 then cmpS x.f0 y.f0 else cmpS x.f1 y.f1
def cmpL : List S76 → List S76 → Int
  | [], [] => 0
  | [], _ :: _ => -1
  | _ :: _, [] => 1
  | x :: xs, y :: ys => if cmpX x y ≠ 0 then cmpX x y else cmpL xs ys
theorem side_eq (a b : ByteArray) : tocsinref04_side a b = cmpS a b := by
  unfold tocsinref04_side
  rw [less_eq, beq_eq]
  rcases cmpS_range a b with h | h | h <;> rw [h] <;> rfl
theorem cmpX_self (x : S76) : cmpX x x = 0 := by unfold cmpX; rw [cmpS_self, cmpS_self]; rfl
theorem cmpL_self : ∀ a : List S76, cmpL a a = 0
  | [] => rfl
  | x :: xs => by unfold cmpL; rw [if_neg (by simp [cmpX_self])]; exact cmpL_self xs
theorem refCompare_eq (a b : List S76) (ha : a.length ≤ 2147483648) : tocsinref04_Compare a b = some (cmpL a b) := by
  unfold tocsinref04_Compare
  have key : ∀ d i : Nat, a.length - i = d → i ≤ a.length → i ≤ b.length →
      (Option.bind (loopO (tocsinref04_Compare_l17 a b) (i : Int)) fun (r5 : (Unit) ⊕ (Int)) =>
        match r5 with
        | Sum.inl r13 => bif (decide ((a.length : Int) < (b.length : Int))) then (some (-1)) else (bif (decide ((a.length : Int) > (b.length : Int))) then (some 1) else (some 0))
        | Sum.inr v62 => some v62) = some (cmpL (a.drop i) (b.drop i)) := by
    intro d
    induction d with
    | zero =>
      intro i hd hia hib
      have hi : i = a.length := by omega
      subst hi
      rw [loopO_done (r := .inl ()) (by
        unfold tocsinref04_Compare_l17
        rw [show decide ((a.length : Int) < (a.length : Int)) = false from decide_eq_false (by omega)]; rfl)]
      rw [List.drop_length]
      by_cases hlt : a.length < b.length
      · rw [List.drop_eq_getElem_cons hlt]
        simp [hlt, cmpL]
      · rw [List.drop_eq_nil_of_le (by omega)]
        have h2 : ¬ b.length < a.length := by omega
        simp [hlt, h2, cmpL]
    | succ d ih =>
      intro i hd hia hib
      have hlt : i < a.length := by omega
      have hx : ix a (i : Int) = some a[i] := by rw [ix_nat, List.getElem?_eq_getElem hlt]
      rw [List.drop_eq_getElem_cons hlt]
      by_cases hb : i < b.length
      · have hy : ix b (i : Int) = some b[i] := by rw [ix_nat, List.getElem?_eq_getElem hb]
        rw [List.drop_eq_getElem_cons hb]
        unfold cmpL
        have hbody : tocsinref04_Compare_l17 a b (i : Int) = some (if cmpX a[i] b[i] ≠ 0 then .inr (.inr (cmpX a[i] b[i])) else .inl ((i + 1 : Nat) : Int)) := by
          unfold tocsinref04_Compare_l17
          rw [show decide ((i : Int) < (a.length : Int)) = true from decide_eq_true (by omega), show decide ((i : Int) < (b.length : Int)) = true from decide_eq_true (by omega)]
          simp only [Bool.and_self, cond_true, hx, hy, Option.bind_some, side_eq, wrap_up (show i < 4294967296 by omega)]
          unfold cmpX
          by_cases h : cmpS a[i].f0 b[i].f0 = 0
          · have h' : ¬ (cmpS a[i].f0 b[i].f0 ≠ 0) := by simpa using h
            simp only [if_neg h', show (cmpS a[i].f0 b[i].f0 != 0) = false by simp [h], cond_false]
            by_cases h2 : cmpS a[i].f1 b[i].f1 = 0
            · simp [h2]
            · rw [if_pos h2, show (cmpS a[i].f1 b[i].f1 != 0) = true by simpa using h2]; rfl
          · have h' : cmpS a[i].f0 b[i].f0 ≠ 0 := h
            simp only [if_pos h', show (cmpS a[i].f0 b[i].f0 != 0) = true by simpa using h, cond_true]
        by_cases h : cmpX a[i] b[i] = 0
        · rw [if_neg (by simpa using h)] at hbody ⊢
          rw [loopO_step hbody]
          exact ih (i + 1) (by omega) (by omega) (by omega)
        · rw [if_pos h] at hbody ⊢
          rw [loopO_done hbody]; rfl
      · rw [List.drop_eq_nil_of_le (show b.length ≤ i by omega)]
        have hbody : tocsinref04_Compare_l17 a b (i : Int) = some (.inr (.inl ())) := by
          unfold tocsinref04_Compare_l17
          rw [show decide ((i : Int) < (a.length : Int)) = true from decide_eq_true (by omega), show decide ((i : Int) < (b.length : Int)) = false from decide_eq_false (by omega)]
          rfl
        rw [loopO_done hbody]
        have h1 : ¬ a.length < b.length := by omega
        have h2 : b.length < a.length := by omega
        simp [h1, h2, cmpL]
  have := key a.length 0 (by omega) (by omega) (by omega)
  rw [show ((0 : Nat) : Int) = 0 from rfl] at this
  exact this
theorem refSame_eq (a b : List S76) (ha : a.length ≤ 2147483648) : tocsinref04_Same a b = some (decide (cmpL a b = 0)) := by
  unfold tocsinref04_Same
  rw [refCompare_eq a b ha]
  rfl
end Go.Proofs.YtkjkkimnjpodiaaGreatDoor

set_option linter.unusedVariables false
set_option linter.unusedSimpArgs false
set_option maxRecDepth 100000
namespace Go.Proofs.YtkjkkimnjpodiaaGreatDoor
open Go.GB
noncomputable def labels_named_l33_c (a2 : Bool) (l11 : List Int) : Int → Option ((Int) ⊕ ((Unit) ⊕ (Bool))) := fun s23 =>
  bif (decide (s23 < (l11.length : Int))) then
  (Option.bind (ix l11 s23) fun (x36 : Int) =>
    bif (((!(labels_letter x36)) && (!(labels_digit x36))) && (!(a2 && (x36 == 58)))) then
    (some (Sum.inr (Sum.inr false)))
    else
    (some (Sum.inl (IntKind.wrap .i64 (s23 + 1)))))
  else
  (some (Sum.inr (Sum.inl ())))
theorem labels_named_l33_ev (a2 : Bool) (l11 : List Int) (s23 : Int) : OLe (labels_named_l33_c a2 l11 s23) (labels_named_l33 a2 l11 s23) := by
  unfold labels_named_l33_c labels_named_l33
  exact (OLe.cond (OLe.bind (OLe.refl _) (fun _ => (OLe.cond (OLe.refl _) (OLe.refl _)))) (OLe.refl _))
noncomputable def labels_named_c (a0 : ByteArray) (a1 : Int) (a2 : Bool) : Option Bool :=
  Option.bind (bif (a0.toList == (⟨#[]⟩ : ByteArray).toList) then
    (some true)
    else
    (bif (decide ((a0.size : Int) > a1)) then
      (some true)
      else
      (Option.bind (bx a0 0) fun (c8 : Int) =>
        some (labels_digit c8)))) fun (j1 : Bool) =>
  bif j1 then
  (some false)
  else
  (Option.bind (sb a0) fun (l11 : List Int) =>
    Option.bind (loopF 1000000 (labels_named_l33_c a2 l11) 0) fun (r21 : (Unit) ⊕ (Bool)) =>
    match r21 with
    | Sum.inl r29 => some true
    | Sum.inr v54 => some v54)
theorem labels_named_ev (a0 : ByteArray) (a1 : Int) (a2 : Bool) : OLe (labels_named_c a0 a1 a2) (labels_named a0 a1 a2) := by
  unfold labels_named_c labels_named
  exact (OLe.bind (OLe.cond (OLe.refl _) (OLe.cond (OLe.refl _) (OLe.bind (OLe.refl _) (fun _ => (OLe.refl _))))) (fun _ => (OLe.cond (OLe.refl _) (OLe.bind (OLe.refl _) (fun _ => (OLe.bind (OLe.loop (fun _ => labels_named_l33_ev _ _ _)) (fun j => by cases j with | inl a => exact (OLe.refl _) | inr b => exact (OLe.refl _))))))))
noncomputable def labels_Name_c (a0 : ByteArray) : Option Bool :=
  Option.bind (labels_named_c a0 64 false) fun (y1 : Bool) =>
  some y1
theorem labels_Name_ev (a0 : ByteArray) : OLe (labels_Name_c a0) (labels_Name a0) := by
  unfold labels_Name_c labels_Name
  exact (OLe.bind (labels_named_ev _ _ _) (fun _ => (OLe.refl _)))
noncomputable def utf8_ValidString_c (a0 : ByteArray) : Option Bool := utf8_ValidString a0
theorem utf8_ValidString_ev (a0 : ByteArray) : OLe (utf8_ValidString_c a0) (utf8_ValidString a0) := OLe.refl _
noncomputable def labels_value_c (a0 : ByteArray) : Option Int :=
  bif (a0.toList == (⟨#[]⟩ : ByteArray).toList) then
  (some 41)
  else
  (bif (decide ((a0.size : Int) > 256)) then
    (some 4)
    else
    (Option.bind (utf8_ValidString_c a0) fun (y3 : Bool) =>
      bif (!y3) then
      (some 12)
      else
      (some 0)))
theorem labels_value_ev (a0 : ByteArray) : OLe (labels_value_c a0) (labels_value a0) := by
  unfold labels_value_c labels_value
  exact (OLe.cond (OLe.refl _) (OLe.cond (OLe.refl _) (OLe.bind (utf8_ValidString_ev _) (fun _ => (OLe.cond (OLe.refl _) (OLe.refl _))))))
noncomputable def labels_Right_l18_c (a0 : List S76) : Int → Option ((Int) ⊕ ((Unit) ⊕ (Int × Int))) := fun s8 =>
  bif (decide (s8 < (a0.length : Int))) then
  (Option.bind (ix a0 s8) fun (x21 : S76) =>
    Option.bind (labels_Name_c x21.f0) fun (y30 : Bool) =>
    bif (!y30) then
    (some (Sum.inr (Sum.inr (40, s8))))
    else
    (Option.bind (labels_value_c x21.f1) fun (y33 : Int) =>
      bif (y33 != 0) then
      (some (Sum.inr (Sum.inr (y33, s8))))
      else
      (Option.bind (bif (decide (s8 > 0)) then
          (Option.bind (ix a0 (IntKind.wrap .i64 (s8 - 1))) fun (x42 : S76) =>
            some ((Op.bytesLess x21.f0.toList x42.f0.toList) || (x21.f0.toList == x42.f0.toList)))
          else
          (some false)) fun (j36 : Bool) =>
        bif j36 then
        (some (Sum.inr (Sum.inr (3, s8))))
        else
        (some (Sum.inl (IntKind.wrap .i64 (s8 + 1)))))))
  else
  (some (Sum.inr (Sum.inl ())))
theorem labels_Right_l18_ev (a0 : List S76) (s8 : Int) : OLe (labels_Right_l18_c a0 s8) (labels_Right_l18 a0 s8) := by
  unfold labels_Right_l18_c labels_Right_l18
  exact (OLe.cond (OLe.bind (OLe.refl _) (fun _ => (OLe.bind (labels_Name_ev _) (fun _ => (OLe.cond (OLe.refl _) (OLe.bind (labels_value_ev _) (fun _ => (OLe.cond (OLe.refl _) (OLe.bind (OLe.cond (OLe.bind (OLe.refl _) (fun _ => (OLe.refl _))) (OLe.refl _)) (fun _ => (OLe.cond (OLe.refl _) (OLe.refl _)))))))))))) (OLe.refl _))
noncomputable def labels_Right_c (a0 : List S76) : Option (Int × Int) :=
  bif (decide ((a0.length : Int) > 16)) then
  (some (8, 0))
  else
  (Option.bind (loopF 1000000 (labels_Right_l18_c a0) 0) fun (r6 : (Unit) ⊕ (Int × Int)) =>
    match r6 with
    | Sum.inl r14 => some (0, 0)
    | Sum.inr v51 => some v51)
theorem labels_Right_ev (a0 : List S76) : OLe (labels_Right_c a0) (labels_Right a0) := by
  unfold labels_Right_c labels_Right
  exact (OLe.cond (OLe.refl _) (OLe.bind (OLe.loop (fun _ => labels_Right_l18_ev _ _)) (fun j => by cases j with | inl a => exact (OLe.refl _) | inr b => exact (OLe.refl _))))
noncomputable def aggr_wrong_l17_c (a0 : List ByteArray) : Int → Option ((Int) ⊕ ((Unit) ⊕ (Int))) := fun s7 =>
  bif (decide (s7 < (a0.length : Int))) then
  (Option.bind (ix a0 s7) fun (x20 : ByteArray) =>
    Option.bind (labels_Name_c x20) fun (y28 : Bool) =>
    bif (!y28) then
    (some (Sum.inr (Sum.inr 40)))
    else
    (some (Sum.inl (IntKind.wrap .i64 (s7 + 1)))))
  else
  (some (Sum.inr (Sum.inl ())))
theorem aggr_wrong_l17_ev (a0 : List ByteArray) (s7 : Int) : OLe (aggr_wrong_l17_c a0 s7) (aggr_wrong_l17 a0 s7) := by
  unfold aggr_wrong_l17_c aggr_wrong_l17
  exact (OLe.cond (OLe.bind (OLe.refl _) (fun _ => (OLe.bind (labels_Name_ev _) (fun _ => (OLe.cond (OLe.refl _) (OLe.refl _)))))) (OLe.refl _))
noncomputable def aggr_wrong_c (a0 : List ByteArray) : Option Int :=
  Option.bind (loopF 1000000 (aggr_wrong_l17_c a0) 0) fun (r5 : (Unit) ⊕ (Int)) =>
  match r5 with
  | Sum.inl r13 => some 0
  | Sum.inr v31 => some v31
theorem aggr_wrong_ev (a0 : List ByteArray) : OLe (aggr_wrong_c a0) (aggr_wrong a0) := by
  unfold aggr_wrong_c aggr_wrong
  exact (OLe.bind (OLe.loop (fun _ => aggr_wrong_l17_ev _ _)) (fun j => by cases j with | inl a => exact (OLe.refl _) | inr b => exact (OLe.refl _)))
noncomputable def slices_Clone_c (a0 : List ByteArray) : Option (List ByteArray) :=
  Option.bind (app ([] : List ByteArray) a0) fun (zs3 : List ByteArray) =>
  some zs3
theorem slices_Clone_ev (a0 : List ByteArray) : OLe (slices_Clone_c a0) (slices_Clone a0) := by
  unfold slices_Clone_c slices_Clone
  exact (OLe.bind (OLe.refl _) (fun _ => (OLe.refl _)))
noncomputable def labels_right_c (a0 : List S76) : Option Int :=
  Option.bind (labels_Right_c a0) fun (y1 : Int × Int) =>
  some y1.1
theorem labels_right_ev (a0 : List S76) : OLe (labels_right_c a0) (labels_right a0) := by
  unfold labels_right_c labels_right
  exact (OLe.bind (labels_Right_ev _) (fun _ => (OLe.refl _)))
noncomputable def slices_Index_l17_c (a0 : List ByteArray) (a1 : ByteArray) : Int → Option ((Int) ⊕ ((Unit) ⊕ (Int))) := fun s7 =>
  bif (decide (s7 < (a0.length : Int))) then
  (Option.bind (ix a0 s7) fun (x20 : ByteArray) =>
    bif (a1.toList == x20.toList) then
    (some (Sum.inr (Sum.inr s7)))
    else
    (some (Sum.inl (IntKind.wrap .i64 (s7 + 1)))))
  else
  (some (Sum.inr (Sum.inl ())))
theorem slices_Index_l17_ev (a0 : List ByteArray) (a1 : ByteArray) (s7 : Int) : OLe (slices_Index_l17_c a0 a1 s7) (slices_Index_l17 a0 a1 s7) := by
  unfold slices_Index_l17_c slices_Index_l17
  exact (OLe.cond (OLe.bind (OLe.refl _) (fun _ => (OLe.cond (OLe.refl _) (OLe.refl _)))) (OLe.refl _))
noncomputable def slices_Index_c (a0 : List ByteArray) (a1 : ByteArray) : Option Int :=
  Option.bind (loopF 1000000 (slices_Index_l17_c a0 a1) 0) fun (r5 : (Unit) ⊕ (Int)) =>
  match r5 with
  | Sum.inl r13 => some (-1)
  | Sum.inr v29 => some v29
theorem slices_Index_ev (a0 : List ByteArray) (a1 : ByteArray) : OLe (slices_Index_c a0 a1) (slices_Index a0 a1) := by
  unfold slices_Index_c slices_Index
  exact (OLe.bind (OLe.loop (fun _ => slices_Index_l17_ev _ _ _)) (fun j => by cases j with | inl a => exact (OLe.refl _) | inr b => exact (OLe.refl _)))
noncomputable def slices_Contains_c (a0 : List ByteArray) (a1 : ByteArray) : Option Bool :=
  Option.bind (slices_Index_c a0 a1) fun (y1 : Int) =>
  some (decide (y1 ≥ 0))
theorem slices_Contains_ev (a0 : List ByteArray) (a1 : ByteArray) : OLe (slices_Contains_c a0 a1) (slices_Contains a0 a1) := by
  unfold slices_Contains_c slices_Contains
  exact (OLe.bind (slices_Index_ev _ _) (fun _ => (OLe.refl _)))
noncomputable def labels_pick_l28_c (a0 : List S76) (a1 : Bool) (a2 : List ByteArray) : ((List S76) × Int) → Option (((List S76) × Int) ⊕ ((List S76))) := fun s11 =>
  bif (decide (s11.2 < (a0.length : Int))) then
  (Option.bind (ix a0 s11.2) fun (x31 : S76) =>
    Option.bind (slices_Contains_c a2 x31.f0) fun (y40 : Bool) =>
    Option.bind (bif (y40 == a1) then
      (Option.bind (app s11.1 [x31]) fun (zs56 : List S76) =>
        some zs56)
      else
      (some s11.1)) fun (j42 : (List S76)) =>
    some (Sum.inl (j42, (IntKind.wrap .i64 (s11.2 + 1)))))
  else
  (some (Sum.inr s11.1))
theorem labels_pick_l28_ev (a0 : List S76) (a1 : Bool) (a2 : List ByteArray) (s11 : (List S76) × Int) : OLe (labels_pick_l28_c a0 a1 a2 s11) (labels_pick_l28 a0 a1 a2 s11) := by
  unfold labels_pick_l28_c labels_pick_l28
  exact (OLe.cond (OLe.bind (OLe.refl _) (fun _ => (OLe.bind (slices_Contains_ev _ _) (fun _ => (OLe.bind (OLe.cond (OLe.bind (OLe.refl _) (fun _ => (OLe.refl _))) (OLe.refl _)) (fun _ => (OLe.refl _))))))) (OLe.refl _))
noncomputable def labels_pick_c (a0 : List S76) (a1 : Bool) (a2 : List ByteArray) : Option (List S76) :=
  Option.bind (loopF 1000000 (labels_pick_l28_c a0 a1 a2) ([], 0)) fun (r9 : (List S76)) =>
  some r9
theorem labels_pick_ev (a0 : List S76) (a1 : Bool) (a2 : List ByteArray) : OLe (labels_pick_c a0 a1 a2) (labels_pick a0 a1 a2) := by
  unfold labels_pick_c labels_pick
  exact (OLe.bind (OLe.loop (fun _ => labels_pick_l28_ev _ _ _ _)) (fun _ => (OLe.refl _)))
noncomputable def labels_Without_c (a0 : List S76) (a1 : List ByteArray) : Option ((List S76) × Int) :=
  Option.bind (labels_right_c a0) fun (y1 : Int) =>
  bif (y1 != 0) then
  (some ([], y1))
  else
  (Option.bind (labels_pick_c a0 false a1) fun (y4 : (List S76)) =>
    some (y4, 0))
theorem labels_Without_ev (a0 : List S76) (a1 : List ByteArray) : OLe (labels_Without_c a0 a1) (labels_Without a0 a1) := by
  unfold labels_Without_c labels_Without
  exact (OLe.bind (labels_right_ev _) (fun _ => (OLe.cond (OLe.refl _) (OLe.bind (labels_pick_ev _ _ _) (fun _ => (OLe.refl _))))))
noncomputable def labels_Keep_c (a0 : List S76) (a1 : List ByteArray) : Option ((List S76) × Int) :=
  Option.bind (labels_right_c a0) fun (y1 : Int) =>
  bif (y1 != 0) then
  (some ([], y1))
  else
  (Option.bind (labels_pick_c a0 true a1) fun (y4 : (List S76)) =>
    some (y4, 0))
theorem labels_Keep_ev (a0 : List S76) (a1 : List ByteArray) : OLe (labels_Keep_c a0 a1) (labels_Keep a0 a1) := by
  unfold labels_Keep_c labels_Keep
  exact (OLe.bind (labels_right_ev _) (fun _ => (OLe.cond (OLe.refl _) (OLe.bind (labels_pick_ev _ _ _) (fun _ => (OLe.refl _))))))
noncomputable def aggr_group_c (a0 : List S76) (a1 : List ByteArray) (a2 : Bool) : Option (List S76) :=
  bif a2 then
  (Option.bind (slices_Clone_c a1) fun (y2 : (List ByteArray)) =>
    Option.bind (app y2 [(⟨#[95, 95, 110, 97, 109, 101, 95, 95]⟩ : ByteArray)]) fun (zs15 : List ByteArray) =>
    Option.bind (labels_Without_c a0 zs15) fun (y25 : (List S76) × Int) =>
    some y25.1)
  else
  (Option.bind (labels_Keep_c a0 a1) fun (y34 : (List S76) × Int) =>
    some y34.1)
theorem aggr_group_ev (a0 : List S76) (a1 : List ByteArray) (a2 : Bool) : OLe (aggr_group_c a0 a1 a2) (aggr_group a0 a1 a2) := by
  unfold aggr_group_c aggr_group
  exact (OLe.cond (OLe.bind (slices_Clone_ev _) (fun _ => (OLe.bind (OLe.refl _) (fun _ => (OLe.bind (labels_Without_ev _ _) (fun _ => (OLe.refl _))))))) (OLe.bind (labels_Keep_ev _ _) (fun _ => (OLe.refl _))))
noncomputable def slices_Clone_f42_c (a0 : List S76) : Option (List S76) :=
  Option.bind (app ([] : List S76) a0) fun (zs3 : List S76) =>
  some zs3
theorem slices_Clone_f42_ev (a0 : List S76) : OLe (slices_Clone_f42_c a0) (slices_Clone_f42 a0) := by
  unfold slices_Clone_f42_c slices_Clone_f42
  exact (OLe.bind (OLe.refl _) (fun _ => (OLe.refl _)))
noncomputable def slices_CompareFunc_l17_c (a0 : List S76) (a1 : List S76) (a2 : S76 → S76 → Option Int) : Int → Option ((Int) ⊕ ((Unit) ⊕ (Int))) := fun s7 =>
  bif (decide (s7 < (a0.length : Int))) then
  (Option.bind (ix a0 s7) fun (x20 : S76) =>
    bif (decide (s7 ≥ (a1.length : Int))) then
    (some (Sum.inr (Sum.inr 1)))
    else
    (Option.bind (ix a1 s7) fun (x30 : S76) =>
      Option.bind (a2 x20 x30) fun (y40 : Int) =>
      bif (y40 != 0) then
      (some (Sum.inr (Sum.inr y40)))
      else
      (some (Sum.inl (IntKind.wrap .i64 (s7 + 1))))))
  else
  (some (Sum.inr (Sum.inl ())))
theorem slices_CompareFunc_l17_ev (a0 : List S76) (a1 : List S76) {a2 a2' : S76 → S76 → Option Int} (ha2 : ∀ x0 x1, OLe (a2 x0 x1) (a2' x0 x1)) (s7 : Int) : OLe (slices_CompareFunc_l17_c a0 a1 a2 s7) (slices_CompareFunc_l17 a0 a1 a2' s7) := by
  unfold slices_CompareFunc_l17_c slices_CompareFunc_l17
  exact (OLe.cond (OLe.bind (OLe.refl _) (fun _ => (OLe.cond (OLe.refl _) (OLe.bind (OLe.refl _) (fun _ => (OLe.bind (ha2 _ _) (fun _ => (OLe.cond (OLe.refl _) (OLe.refl _))))))))) (OLe.refl _))
noncomputable def slices_CompareFunc_c (a0 : List S76) (a1 : List S76) (a2 : S76 → S76 → Option Int) : Option Int :=
  Option.bind (loopF 1000000 (slices_CompareFunc_l17_c a0 a1 a2) 0) fun (r5 : (Unit) ⊕ (Int)) =>
  match r5 with
  | Sum.inl r13 => bif (decide ((a0.length : Int) < (a1.length : Int))) then
    (some (-1))
    else
    (some 0)
  | Sum.inr v43 => some v43
theorem slices_CompareFunc_ev (a0 : List S76) (a1 : List S76) {a2 a2' : S76 → S76 → Option Int} (ha2 : ∀ x0 x1, OLe (a2 x0 x1) (a2' x0 x1)) : OLe (slices_CompareFunc_c a0 a1 a2) (slices_CompareFunc a0 a1 a2') := by
  unfold slices_CompareFunc_c slices_CompareFunc
  exact (OLe.bind (OLe.loop (fun _ => slices_CompareFunc_l17_ev _ _ ha2 _)) (fun j => by cases j with | inl a => exact (OLe.cond (OLe.refl _) (OLe.refl _)) | inr b => exact (OLe.refl _)))
noncomputable def labels_Compare_c (a0 : List S76) (a1 : List S76) : Option Int :=
  Option.bind (slices_CompareFunc_c a0 a1 (fun x0 x1 => some (labels_Compare_1 x0 x1))) fun (y1 : Int) =>
  some y1
theorem labels_Compare_ev (a0 : List S76) (a1 : List S76) : OLe (labels_Compare_c a0 a1) (labels_Compare a0 a1) := by
  unfold labels_Compare_c labels_Compare
  exact (OLe.bind (slices_CompareFunc_ev _ _ (fun _ _ => OLe.refl _)) (fun _ => (OLe.refl _)))
noncomputable def vec_Vector_1_c (a0 : S38) (a1 : S38) : Option Int :=
  Option.bind (labels_Compare_c a0.f0 a1.f0) fun (y3 : Int) =>
  some y3
theorem vec_Vector_1_ev (a0 : S38) (a1 : S38) : OLe (vec_Vector_1_c a0 a1) (vec_Vector_1 a0 a1) := by
  unfold vec_Vector_1_c vec_Vector_1
  exact (OLe.bind (labels_Compare_ev _ _) (fun _ => (OLe.refl _)))
noncomputable def vec_Vector_l18_c (a0 : List S38) : Int → Option ((Int) ⊕ ((Unit) ⊕ ((List S38) × Int))) := fun s8 =>
  bif (decide (s8 < (a0.length : Int))) then
  (Option.bind (ix a0 s8) fun (x21 : S38) =>
    Option.bind (labels_Right_c x21.f0) fun (y35 : Int × Int) =>
    bif (y35.1 != 0) then
    (some (Sum.inr (Sum.inr ([], 41))))
    else
    (some (Sum.inl (IntKind.wrap .i64 (s8 + 1)))))
  else
  (some (Sum.inr (Sum.inl ())))
theorem vec_Vector_l18_ev (a0 : List S38) (s8 : Int) : OLe (vec_Vector_l18_c a0 s8) (vec_Vector_l18 a0 s8) := by
  unfold vec_Vector_l18_c vec_Vector_l18
  exact (OLe.cond (OLe.bind (OLe.refl _) (fun _ => (OLe.bind (labels_Right_ev _) (fun _ => (OLe.cond (OLe.refl _) (OLe.refl _)))))) (OLe.refl _))
noncomputable def vec_Vector_l65_c (a0 : List S38) : ((List S38) × Int) → Option (((List S38) × Int) ⊕ ((List S38))) := fun s48 =>
  bif (decide (s48.2 < (a0.length : Int))) then
  (Option.bind (ix a0 s48.2) fun (x68 : S38) =>
    Option.bind (slices_Clone_f42_c x68.f0) fun (y82 : (List S76)) =>
    Option.bind (app s48.1 [(⟨y82, x68.f1⟩ : S38)]) fun (zs99 : List S38) =>
    some (Sum.inl (zs99, (IntKind.wrap .i64 (s48.2 + 1)))))
  else
  (some (Sum.inr s48.1))
theorem vec_Vector_l65_ev (a0 : List S38) (s48 : (List S38) × Int) : OLe (vec_Vector_l65_c a0 s48) (vec_Vector_l65 a0 s48) := by
  unfold vec_Vector_l65_c vec_Vector_l65
  exact (OLe.cond (OLe.bind (OLe.refl _) (fun _ => (OLe.bind (slices_Clone_f42_ev _) (fun _ => (OLe.bind (OLe.refl _) (fun _ => (OLe.refl _))))))) (OLe.refl _))
noncomputable def vec_Vector_l131_c (zs105 : List S38) : Int → Option ((Int) ⊕ ((Unit) ⊕ ((List S38) × Int))) := fun s121 =>
  bif (decide (s121 < (zs105.length : Int))) then
  (Option.bind (ix zs105 (IntKind.wrap .i64 (s121 - 1))) fun (x134 : S38) =>
    Option.bind (ix zs105 s121) fun (x148 : S38) =>
    Option.bind (labels_Compare_c x134.f0 x148.f0) fun (y162 : Int) =>
    bif (y162 == 0) then
    (some (Sum.inr (Sum.inr ([], 150))))
    else
    (some (Sum.inl (IntKind.wrap .i64 (s121 + 1)))))
  else
  (some (Sum.inr (Sum.inl ())))
theorem vec_Vector_l131_ev (zs105 : List S38) (s121 : Int) : OLe (vec_Vector_l131_c zs105 s121) (vec_Vector_l131 zs105 s121) := by
  unfold vec_Vector_l131_c vec_Vector_l131
  exact (OLe.cond (OLe.bind (OLe.refl _) (fun _ => (OLe.bind (OLe.refl _) (fun _ => (OLe.bind (labels_Compare_ev _ _) (fun _ => (OLe.cond (OLe.refl _) (OLe.refl _)))))))) (OLe.refl _))
noncomputable def vec_Vector_c (a0 : List S38) : Option ((List S38) × Int) :=
  bif (decide ((a0.length : Int) > 1000)) then
  (some ([], 7))
  else
  (Option.bind (loopF 1000000 (vec_Vector_l18_c a0) 0) fun (r6 : (Unit) ⊕ ((List S38) × Int)) =>
    match r6 with
    | Sum.inl r14 => Option.bind (loopF 1000000 (vec_Vector_l65_c a0) ([], 0)) fun (r46 : (List S38)) =>
      sortBindC vec_Vector_1_c r46 fun (zs105 : List S38) =>
      Option.bind (loopF 1000000 (vec_Vector_l131_c zs105) 1) fun (r119 : (Unit) ⊕ ((List S38) × Int)) =>
      match r119 with
      | Sum.inl r127 => some (zs105, 0)
      | Sum.inr v165 => some v165
    | Sum.inr v166 => some v166)
theorem vec_Vector_ev (a0 : List S38) : OLe (vec_Vector_c a0) (vec_Vector a0) := by
  unfold vec_Vector_c vec_Vector
  exact (OLe.cond (OLe.refl _) (OLe.bind (OLe.loop (fun _ => vec_Vector_l18_ev _ _)) (fun j => by cases j with | inl a => exact (OLe.bind (OLe.loop (fun _ => vec_Vector_l65_ev _ _)) (fun _ => (OLe.sort (fun _ _ => vec_Vector_1_ev _ _) (fun _ => (OLe.bind (OLe.loop (fun _ => vec_Vector_l131_ev _ _)) (fun j => by cases j with | inl a => exact (OLe.refl _) | inr b => exact (OLe.refl _))))))) | inr b => exact (OLe.refl _))))
noncomputable def vint_joined_c (a0 : List Int) (a1 : List Int) : Option (List Int) :=
  Option.bind (mkrow (0 : Int) 0 (IntKind.wrap .i64 ((a0.length : Int) + (a1.length : Int)))) fun (xs1 : List Int) =>
  Option.bind (app xs1 a0) fun (zs6 : List Int) =>
  Option.bind (app zs6 a1) fun (zs12 : List Int) =>
  some zs12
theorem vint_joined_ev (a0 : List Int) (a1 : List Int) : OLe (vint_joined_c a0 a1) (vint_joined a0 a1) := by
  unfold vint_joined_c vint_joined
  exact (OLe.bind (OLe.refl _) (fun _ => (OLe.bind (OLe.refl _) (fun _ => (OLe.bind (OLe.refl _) (fun _ => (OLe.refl _)))))))
noncomputable def vint_PutU_l28_c : (Int × (List Int)) → Option ((Int × (List Int)) ⊕ (Int × (List Int))) := fun s11 =>
  bif (decide (s11.1 ≥ 128)) then
  (Option.bind (app s11.2 [(bitOr .u8 (IntKind.wrap .u8 s11.1) 128)]) fun (zs35 : List Int) =>
    some (Sum.inl ((shr .u64 s11.1 7), zs35)))
  else
  (some (Sum.inr (s11.1, s11.2)))
theorem vint_PutU_l28_ev  (s11 : Int × (List Int)) : OLe (vint_PutU_l28_c  s11) (vint_PutU_l28  s11) := by
  unfold vint_PutU_l28_c vint_PutU_l28
  exact (OLe.cond (OLe.bind (OLe.refl _) (fun _ => (OLe.refl _))) (OLe.refl _))
noncomputable def vint_PutU_c (a0 : List Int) (a1 : Int) : Option (List Int) :=
  Option.bind (loopF 1000000 vint_PutU_l28_c (a1, [])) fun (r9 : Int × (List Int)) =>
  Option.bind (app r9.2 [(IntKind.wrap .u8 r9.1)]) fun (zs45 : List Int) =>
  Option.bind (vint_joined_c a0 zs45) fun (y55 : (List Int)) =>
  some y55
theorem vint_PutU_ev (a0 : List Int) (a1 : Int) : OLe (vint_PutU_c a0 a1) (vint_PutU a0 a1) := by
  unfold vint_PutU_c vint_PutU
  exact (OLe.bind (OLe.loop (fun _ => vint_PutU_l28_ev  _)) (fun _ => (OLe.bind (OLe.refl _) (fun _ => (OLe.bind (vint_joined_ev _ _) (fun _ => (OLe.refl _)))))))
noncomputable def vint_PutText_c (a0 : List Int) (a1 : ByteArray) : Option (List Int) :=
  Option.bind (vint_PutU_c a0 (IntKind.wrap .u64 (a1.size : Int))) fun (y1 : (List Int)) =>
  Option.bind (sb a1) fun (l10 : List Int) =>
  Option.bind (vint_joined_c y1 l10) fun (y21 : (List Int)) =>
  some y21
theorem vint_PutText_ev (a0 : List Int) (a1 : ByteArray) : OLe (vint_PutText_c a0 a1) (vint_PutText a0 a1) := by
  unfold vint_PutText_c vint_PutText
  exact (OLe.bind (vint_PutU_ev _ _) (fun _ => (OLe.bind (OLe.refl _) (fun _ => (OLe.bind (vint_joined_ev _ _) (fun _ => (OLe.refl _)))))))
noncomputable def labels_Put_l40_c (a1 : List S76) : ((List Int) × Int) → Option (((List Int) × Int) ⊕ ((List Int))) := fun s23 =>
  bif (decide (s23.2 < (a1.length : Int))) then
  (Option.bind (ix a1 s23.2) fun (x43 : S76) =>
    Option.bind (vint_PutText_c s23.1 x43.f0) fun (y56 : (List Int)) =>
    Option.bind (vint_PutText_c y56 x43.f1) fun (y69 : (List Int)) =>
    some (Sum.inl (y69, (IntKind.wrap .i64 (s23.2 + 1)))))
  else
  (some (Sum.inr s23.1))
theorem labels_Put_l40_ev (a1 : List S76) (s23 : (List Int) × Int) : OLe (labels_Put_l40_c a1 s23) (labels_Put_l40 a1 s23) := by
  unfold labels_Put_l40_c labels_Put_l40
  exact (OLe.cond (OLe.bind (OLe.refl _) (fun _ => (OLe.bind (vint_PutText_ev _ _) (fun _ => (OLe.bind (vint_PutText_ev _ _) (fun _ => (OLe.refl _))))))) (OLe.refl _))
noncomputable def labels_Put_c (a0 : List Int) (a1 : List S76) : Option ((List Int) × Int) :=
  Option.bind (labels_right_c a1) fun (y1 : Int) =>
  bif (y1 != 0) then
  (some ([], y1))
  else
  (Option.bind (vint_PutU_c a0 (IntKind.wrap .u64 (a1.length : Int))) fun (y4 : (List Int)) =>
    Option.bind (loopF 1000000 (labels_Put_l40_c a1) (y4, 0)) fun (r21 : (List Int)) =>
    some (r21, 0))
theorem labels_Put_ev (a0 : List Int) (a1 : List S76) : OLe (labels_Put_c a0 a1) (labels_Put a0 a1) := by
  unfold labels_Put_c labels_Put
  exact (OLe.bind (labels_right_ev _) (fun _ => (OLe.cond (OLe.refl _) (OLe.bind (vint_PutU_ev _ _) (fun _ => (OLe.bind (OLe.loop (fun _ => labels_Put_l40_ev _ _)) (fun _ => (OLe.refl _))))))))
noncomputable def aggr_Groups_1_c (a0 : Int) (a1 : Int) (a2 : List (List S76)) : Option Int :=
  Option.bind (ix a2 a0) fun (x1 : List S76) =>
  Option.bind (ix a2 a1) fun (x12 : List S76) =>
  Option.bind (labels_Compare_c x1 x12) fun (y23 : Int) =>
  some y23
theorem aggr_Groups_1_ev (a0 : Int) (a1 : Int) (a2 : List (List S76)) : OLe (aggr_Groups_1_c a0 a1 a2) (aggr_Groups_1 a0 a1 a2) := by
  unfold aggr_Groups_1_c aggr_Groups_1
  exact (OLe.bind (OLe.refl _) (fun _ => (OLe.bind (OLe.refl _) (fun _ => (OLe.bind (labels_Compare_ev _ _) (fun _ => (OLe.refl _)))))))
noncomputable def aggr_Groups_l61_c (a1 : List ByteArray) (a2 : Bool) (y1 : (List S38) × Int) : ((List (List S76)) × (List (ByteArray × Int)) × (List (List S38)) × Int) → Option (((List (List S76)) × (List (ByteArray × Int)) × (List (List S38)) × Int) ⊕ ((List (List S38)) × (List (List S76)))) := fun s34 =>
  bif (decide (s34.2.2.2 < (y1.1.length : Int))) then
  (Option.bind (ix y1.1 s34.2.2.2) fun (x64 : S38) =>
    Option.bind (aggr_group_c x64.f0 a1 a2) fun (y79 : (List S76)) =>
    Option.bind (labels_Put_c [] y79) fun (y92 : (List Int) × Int) =>
    Option.bind (bif (!((mget Ky.str s34.2.1 (ofBytes y92.1)).isSome)) then
      (Option.bind (app s34.1 [y79]) fun (zs123 : List (List S76)) =>
        Option.bind (app s34.2.2.1 [([] : List S38)]) fun (zs133 : List (List S38)) =>
        some ((mput Ky.str s34.2.1 (ofBytes y92.1) (s34.2.2.1.length : Int)), zs133, (s34.2.2.1.length : Int), zs123))
      else
      (some (s34.2.1, s34.2.2.1, ((mget Ky.str s34.2.1 (ofBytes y92.1)).getD 0), s34.1))) fun (j101 : (List (ByteArray × Int)) × (List (List S38)) × Int × (List (List S76))) =>
    Option.bind (ix j101.2.1 j101.2.2.1) fun (x140 : List S38) =>
    Option.bind (app x140 [x64]) fun (zs160 : List S38) =>
    some (Sum.inl (j101.2.2.2, j101.1, (lset j101.2.1 j101.2.2.1 zs160), (IntKind.wrap .i64 (s34.2.2.2 + 1)))))
  else
  (some (Sum.inr (s34.2.2.1, s34.1)))
theorem aggr_Groups_l61_ev (a1 : List ByteArray) (a2 : Bool) (y1 : (List S38) × Int) (s34 : (List (List S76)) × (List (ByteArray × Int)) × (List (List S38)) × Int) : OLe (aggr_Groups_l61_c a1 a2 y1 s34) (aggr_Groups_l61 a1 a2 y1 s34) := by
  unfold aggr_Groups_l61_c aggr_Groups_l61
  exact (OLe.cond (OLe.bind (OLe.refl _) (fun _ => (OLe.bind (aggr_group_ev _ _ _) (fun _ => (OLe.bind (labels_Put_ev _ _) (fun _ => (OLe.bind (OLe.cond (OLe.bind (OLe.refl _) (fun _ => (OLe.bind (OLe.refl _) (fun _ => (OLe.refl _))))) (OLe.refl _)) (fun _ => (OLe.bind (OLe.refl _) (fun _ => (OLe.bind (OLe.refl _) (fun _ => (OLe.refl _))))))))))))) (OLe.refl _))
noncomputable def aggr_Groups_l198_c (xs169 : List Int) : ((List Int) × Int) → Option (((List Int) × Int) ⊕ ((List Int))) := fun s183 =>
  bif (decide (s183.2 < (xs169.length : Int))) then
  (Option.bind (ix s183.1 s183.2) fun (x201 : Int) =>
    some (Sum.inl ((lset s183.1 s183.2 s183.2), (IntKind.wrap .i64 (s183.2 + 1)))))
  else
  (some (Sum.inr s183.1))
theorem aggr_Groups_l198_ev (xs169 : List Int) (s183 : (List Int) × Int) : OLe (aggr_Groups_l198_c xs169 s183) (aggr_Groups_l198 xs169 s183) := by
  unfold aggr_Groups_l198_c aggr_Groups_l198
  exact (OLe.cond (OLe.bind (OLe.refl _) (fun _ => (OLe.refl _))) (OLe.refl _))
noncomputable def aggr_Groups_l270_c (r32 : (List (List S38)) × (List (List S76))) (zs218 : List Int) : ((List (List S38)) × Int) → Option (((List (List S38)) × Int) ⊕ ((List (List S38)))) := fun s253 =>
  bif (decide (s253.2 < (zs218.length : Int))) then
  (Option.bind (ix zs218 s253.2) fun (x273 : Int) =>
    Option.bind (ix r32.1 x273) fun (x282 : List S38) =>
    Option.bind (app s253.1 [x282]) fun (zs297 : List (List S38)) =>
    some (Sum.inl (zs297, (IntKind.wrap .i64 (s253.2 + 1)))))
  else
  (some (Sum.inr s253.1))
theorem aggr_Groups_l270_ev (r32 : (List (List S38)) × (List (List S76))) (zs218 : List Int) (s253 : (List (List S38)) × Int) : OLe (aggr_Groups_l270_c r32 zs218 s253) (aggr_Groups_l270 r32 zs218 s253) := by
  unfold aggr_Groups_l270_c aggr_Groups_l270
  exact (OLe.cond (OLe.bind (OLe.refl _) (fun _ => (OLe.bind (OLe.refl _) (fun _ => (OLe.bind (OLe.refl _) (fun _ => (OLe.refl _))))))) (OLe.refl _))
noncomputable def aggr_Groups_c (a0 : List S38) (a1 : List ByteArray) (a2 : Bool) : Option ((List (List S38)) × Int) :=
  Option.bind (vec_Vector_c a0) fun (y1 : (List S38) × Int) =>
  bif (y1.2 != 0) then
  (some ([], y1.2))
  else
  (Option.bind (aggr_wrong_c a1) fun (y11 : Int) =>
    bif (y11 != 0) then
    (some ([], y11))
    else
    (Option.bind (loopF 1000000 (aggr_Groups_l61_c a1 a2 y1) ([], ([] : List (ByteArray × Int)), [], 0)) fun (r32 : (List (List S38)) × (List (List S76))) =>
      Option.bind (mkrow (0 : Int) (r32.1.length : Int) (r32.1.length : Int)) fun (xs169 : List Int) =>
      Option.bind (loopF 1000000 (aggr_Groups_l198_c xs169) (xs169, 0)) fun (r181 : (List Int)) =>
      sortBindC (fun x0 x1 => aggr_Groups_1_c x0 x1 r32.2) r181 fun (zs218 : List Int) =>
      Option.bind (loopF 1000000 (aggr_Groups_l270_c r32 zs218) ([], 0)) fun (r251 : (List (List S38))) =>
      some (r251, 0)))
theorem aggr_Groups_ev (a0 : List S38) (a1 : List ByteArray) (a2 : Bool) : OLe (aggr_Groups_c a0 a1 a2) (aggr_Groups a0 a1 a2) := by
  unfold aggr_Groups_c aggr_Groups
  exact (OLe.bind (vec_Vector_ev _) (fun _ => (OLe.cond (OLe.refl _) (OLe.bind (aggr_wrong_ev _) (fun _ => (OLe.cond (OLe.refl _) (OLe.bind (OLe.loop (fun _ => aggr_Groups_l61_ev _ _ _ _)) (fun _ => (OLe.bind (OLe.refl _) (fun _ => (OLe.bind (OLe.loop (fun _ => aggr_Groups_l198_ev _ _)) (fun _ => (OLe.sort (fun _ _ => aggr_Groups_1_ev _ _ _) (fun _ => (OLe.bind (OLe.loop (fun _ => aggr_Groups_l270_ev _ _ _)) (fun _ => (OLe.refl _)))))))))))))))))
noncomputable def aggr_values_sum_l37_c (l12 : List Fl) : (Fl × Int) → Option ((Fl × Int) ⊕ (Fl)) := fun s24 =>
  bif (decide (s24.2 < (l12.length : Int))) then
  (Option.bind (ix l12 s24.2) fun (x40 : Fl) =>
    some (Sum.inl ((farith .add s24.1 x40), (IntKind.wrap .i64 (s24.2 + 1)))))
  else
  (some (Sum.inr s24.1))
theorem aggr_values_sum_l37_ev (l12 : List Fl) (s24 : Fl × Int) : OLe (aggr_values_sum_l37_c l12 s24) (aggr_values_sum_l37 l12 s24) := by
  unfold aggr_values_sum_l37_c aggr_values_sum_l37
  exact (OLe.cond (OLe.bind (OLe.refl _) (fun _ => (OLe.refl _))) (OLe.refl _))
noncomputable def aggr_values_sum_c (a0 : List Fl) (a1 : Fl) : Option Fl :=
  Option.bind (ix a0 0) fun (x1 : Fl) =>
  Option.bind (lx a0 1 (a0.length : Int)) fun (l12 : List Fl) =>
  Option.bind (loopF 1000000 (aggr_values_sum_l37_c l12) (x1, 0)) fun (r22 : Fl) =>
  some r22
theorem aggr_values_sum_ev (a0 : List Fl) (a1 : Fl) : OLe (aggr_values_sum_c a0 a1) (aggr_values_sum a0 a1) := by
  unfold aggr_values_sum_c aggr_values_sum
  exact (OLe.bind (OLe.refl _) (fun _ => (OLe.bind (OLe.refl _) (fun _ => (OLe.bind (OLe.loop (fun _ => aggr_values_sum_l37_ev _ _)) (fun _ => (OLe.refl _)))))))
noncomputable def aggr_values_avg_c (a0 : List Fl) (a1 : Fl) : Option Fl :=
  Option.bind (aggr_values_sum_c a0 a1) fun (y1 : Fl) =>
  some (farith .quo y1 (some (FloatKind.nearest .f64 (a0.length : Int)) : Fl))
theorem aggr_values_avg_ev (a0 : List Fl) (a1 : Fl) : OLe (aggr_values_avg_c a0 a1) (aggr_values_avg a0 a1) := by
  unfold aggr_values_avg_c aggr_values_avg
  exact (OLe.bind (aggr_values_sum_ev _ _) (fun _ => (OLe.refl _)))
noncomputable def aggr_values_min_l32_c (a0 : List Fl) : (Fl × Int) → Option ((Fl × Int) ⊕ (Fl)) := fun s19 =>
  bif (decide (s19.2 < (a0.length : Int))) then
  (Option.bind (ix a0 s19.2) fun (x35 : Fl) =>
    Option.bind (bif (fcmp .lss x35 s19.1) then
      (some true)
      else
      (some (math_IsNaN s19.1))) fun (j45 : Bool) =>
    Option.bind (bif j45 then
      (some x35)
      else
      (some s19.1)) fun (j51 : Fl) =>
    some (Sum.inl (j51, (IntKind.wrap .i64 (s19.2 + 1)))))
  else
  (some (Sum.inr s19.1))
theorem aggr_values_min_l32_ev (a0 : List Fl) (s19 : Fl × Int) : OLe (aggr_values_min_l32_c a0 s19) (aggr_values_min_l32 a0 s19) := by
  unfold aggr_values_min_l32_c aggr_values_min_l32
  exact (OLe.cond (OLe.bind (OLe.refl _) (fun _ => (OLe.bind (OLe.cond (OLe.refl _) (OLe.refl _)) (fun _ => (OLe.bind (OLe.cond (OLe.refl _) (OLe.refl _)) (fun _ => (OLe.refl _))))))) (OLe.refl _))
noncomputable def aggr_values_min_c (a0 : List Fl) (a1 : Fl) : Option Fl :=
  Option.bind (ix a0 0) fun (x1 : Fl) =>
  Option.bind (loopF 1000000 (aggr_values_min_l32_c a0) (x1, 0)) fun (r17 : Fl) =>
  some r17
theorem aggr_values_min_ev (a0 : List Fl) (a1 : Fl) : OLe (aggr_values_min_c a0 a1) (aggr_values_min a0 a1) := by
  unfold aggr_values_min_c aggr_values_min
  exact (OLe.bind (OLe.refl _) (fun _ => (OLe.bind (OLe.loop (fun _ => aggr_values_min_l32_ev _ _)) (fun _ => (OLe.refl _)))))
noncomputable def aggr_values_max_l32_c (a0 : List Fl) : (Fl × Int) → Option ((Fl × Int) ⊕ (Fl)) := fun s19 =>
  bif (decide (s19.2 < (a0.length : Int))) then
  (Option.bind (ix a0 s19.2) fun (x35 : Fl) =>
    Option.bind (bif (fcmp .gtr x35 s19.1) then
      (some true)
      else
      (some (math_IsNaN s19.1))) fun (j45 : Bool) =>
    Option.bind (bif j45 then
      (some x35)
      else
      (some s19.1)) fun (j51 : Fl) =>
    some (Sum.inl (j51, (IntKind.wrap .i64 (s19.2 + 1)))))
  else
  (some (Sum.inr s19.1))
theorem aggr_values_max_l32_ev (a0 : List Fl) (s19 : Fl × Int) : OLe (aggr_values_max_l32_c a0 s19) (aggr_values_max_l32 a0 s19) := by
  unfold aggr_values_max_l32_c aggr_values_max_l32
  exact (OLe.cond (OLe.bind (OLe.refl _) (fun _ => (OLe.bind (OLe.cond (OLe.refl _) (OLe.refl _)) (fun _ => (OLe.bind (OLe.cond (OLe.refl _) (OLe.refl _)) (fun _ => (OLe.refl _))))))) (OLe.refl _))
noncomputable def aggr_values_max_c (a0 : List Fl) (a1 : Fl) : Option Fl :=
  Option.bind (ix a0 0) fun (x1 : Fl) =>
  Option.bind (loopF 1000000 (aggr_values_max_l32_c a0) (x1, 0)) fun (r17 : Fl) =>
  some r17
theorem aggr_values_max_ev (a0 : List Fl) (a1 : Fl) : OLe (aggr_values_max_c a0 a1) (aggr_values_max a0 a1) := by
  unfold aggr_values_max_c aggr_values_max
  exact (OLe.bind (OLe.refl _) (fun _ => (OLe.bind (OLe.loop (fun _ => aggr_values_max_l32_ev _ _)) (fun _ => (OLe.refl _)))))
noncomputable def aggr_values_stdvar_l35_c (a0 : List Fl) (y1 : Fl) : ((List Fl) × Int) → Option (((List Fl) × Int) ⊕ ((List Fl))) := fun s18 =>
  bif (decide (s18.2 < (a0.length : Int))) then
  (Option.bind (ix a0 s18.2) fun (x38 : Fl) =>
    Option.bind (app s18.1 [(farith .mul (farith .sub x38 y1) (farith .sub x38 y1))]) fun (zs56 : List Fl) =>
    some (Sum.inl (zs56, (IntKind.wrap .i64 (s18.2 + 1)))))
  else
  (some (Sum.inr s18.1))
theorem aggr_values_stdvar_l35_ev (a0 : List Fl) (y1 : Fl) (s18 : (List Fl) × Int) : OLe (aggr_values_stdvar_l35_c a0 y1 s18) (aggr_values_stdvar_l35 a0 y1 s18) := by
  unfold aggr_values_stdvar_l35_c aggr_values_stdvar_l35
  exact (OLe.cond (OLe.bind (OLe.refl _) (fun _ => (OLe.bind (OLe.refl _) (fun _ => (OLe.refl _))))) (OLe.refl _))
noncomputable def aggr_values_stdvar_c (a0 : List Fl) (a1 : Fl) : Option Fl :=
  Option.bind (aggr_values_avg_c a0 a1) fun (y1 : Fl) =>
  Option.bind (loopF 1000000 (aggr_values_stdvar_l35_c a0 y1) ([], 0)) fun (r16 : (List Fl)) =>
  Option.bind (aggr_values_sum_c r16 a1) fun (y66 : Fl) =>
  some (farith .quo y66 (some (FloatKind.nearest .f64 (a0.length : Int)) : Fl))
theorem aggr_values_stdvar_ev (a0 : List Fl) (a1 : Fl) : OLe (aggr_values_stdvar_c a0 a1) (aggr_values_stdvar a0 a1) := by
  unfold aggr_values_stdvar_c aggr_values_stdvar
  exact (OLe.bind (aggr_values_avg_ev _ _) (fun _ => (OLe.bind (OLe.loop (fun _ => aggr_values_stdvar_l35_ev _ _ _)) (fun _ => (OLe.bind (aggr_values_sum_ev _ _) (fun _ => (OLe.refl _)))))))
noncomputable def aggr_values_stddev_c (a0 : List Fl) (a1 : Fl) : Option Fl :=
  Option.bind (aggr_values_stdvar_c a0 a1) fun (y1 : Fl) =>
  some (math_Sqrt y1)
theorem aggr_values_stddev_ev (a0 : List Fl) (a1 : Fl) : OLe (aggr_values_stddev_c a0 a1) (aggr_values_stddev a0 a1) := by
  unfold aggr_values_stddev_c aggr_values_stddev
  exact (OLe.bind (aggr_values_stdvar_ev _ _) (fun _ => (OLe.refl _)))
noncomputable def tabf_48_c : Nat → (List Fl) → Fl → Option Fl
  | 0, _, _ => none
  | 1, x0, x1 => aggr_values_sum_c x0 x1
  | 2, x0, x1 => aggr_values_avg_c x0 x1
  | 3, x0, x1 => aggr_values_min_c x0 x1
  | 4, x0, x1 => aggr_values_max_c x0 x1
  | 5, x0, x1 => (fun x0 x1 => some (aggr_values_count x0 x1)) x0 x1
  | 6, x0, x1 => (fun x0 x1 => some (aggr_values_group x0 x1)) x0 x1
  | 7, x0, x1 => aggr_values_stdvar_c x0 x1
  | 8, x0, x1 => aggr_values_stddev_c x0 x1
  | _ + 9, x0, x1 => none
theorem tabf_48_ev : ∀ (k : Nat) (x0 : List Fl) (x1 : Fl), OLe (tabf_48_c k x0 x1) (tabf_48 k x0 x1)
  | 0, x0, x1 => fun _ h => by cases h
  | 1, x0, x1 => aggr_values_sum_ev x0 x1
  | 2, x0, x1 => aggr_values_avg_ev x0 x1
  | 3, x0, x1 => aggr_values_min_ev x0 x1
  | 4, x0, x1 => aggr_values_max_ev x0 x1
  | 5, x0, x1 => OLe.refl _
  | 6, x0, x1 => OLe.refl _
  | 7, x0, x1 => aggr_values_stdvar_ev x0 x1
  | 8, x0, x1 => aggr_values_stddev_ev x0 x1
  | _ + 9, x0, x1 => OLe.refl _
noncomputable def aggr_Number_l96_c (x51 : List S38) : ((List Fl) × Int) → Option (((List Fl) × Int) ⊕ ((List Fl))) := fun s79 =>
  bif (decide (s79.2 < (x51.length : Int))) then
  (Option.bind (ix x51 s79.2) fun (x99 : S38) =>
    Option.bind (app s79.1 [x99.f1]) fun (zs117 : List Fl) =>
    some (Sum.inl (zs117, (IntKind.wrap .i64 (s79.2 + 1)))))
  else
  (some (Sum.inr s79.1))
theorem aggr_Number_l96_ev (x51 : List S38) (s79 : (List Fl) × Int) : OLe (aggr_Number_l96_c x51 s79) (aggr_Number_l96 x51 s79) := by
  unfold aggr_Number_l96_c aggr_Number_l96
  exact (OLe.cond (OLe.bind (OLe.refl _) (fun _ => (OLe.bind (OLe.refl _) (fun _ => (OLe.refl _))))) (OLe.refl _))
noncomputable def aggr_Number_l48_c (a0 : ByteArray) (a2 : List ByteArray) (a3 : Bool) (a4 : Fl) (y11 : (List (List S38)) × Int) : ((List S38) × Int) → Option (((List S38) × Int) ⊕ ((List S38))) := fun s31 =>
  bif (decide (s31.2 < (y11.1.length : Int))) then
  (Option.bind (ix y11.1 s31.2) fun (x51 : List S38) =>
    bif ((aggr_fold a0) == 0) then
    (none)
    else
    (Option.bind (loopF 1000000 (aggr_Number_l96_c x51) ([], 0)) fun (r77 : (List Fl)) =>
      Option.bind (ix x51 0) fun (x123 : S38) =>
      Option.bind (aggr_group_c x123.f0 a2 a3) fun (y136 : (List S76)) =>
      Option.bind (tabf_48_c (aggr_fold a0) r77 a4) fun (y152 : Fl) =>
      Option.bind (app s31.1 [(⟨y136, (aggr_told y152)⟩ : S38)]) fun (zs171 : List S38) =>
      some (Sum.inl (zs171, (IntKind.wrap .i64 (s31.2 + 1))))))
  else
  (some (Sum.inr s31.1))
theorem aggr_Number_l48_ev (a0 : ByteArray) (a2 : List ByteArray) (a3 : Bool) (a4 : Fl) (y11 : (List (List S38)) × Int) (s31 : (List S38) × Int) : OLe (aggr_Number_l48_c a0 a2 a3 a4 y11 s31) (aggr_Number_l48 a0 a2 a3 a4 y11 s31) := by
  unfold aggr_Number_l48_c aggr_Number_l48
  exact (OLe.cond (OLe.bind (OLe.refl _) (fun _ => (OLe.cond (OLe.refl _) (OLe.bind (OLe.loop (fun _ => aggr_Number_l96_ev _ _)) (fun _ => (OLe.bind (OLe.refl _) (fun _ => (OLe.bind (aggr_group_ev _ _ _) (fun _ => (OLe.bind (tabf_48_ev _ _ _) (fun _ => (OLe.bind (OLe.refl _) (fun _ => (OLe.refl _)))))))))))))) (OLe.refl _))
noncomputable def aggr_Number_c (a0 : ByteArray) (a1 : List S38) (a2 : List ByteArray) (a3 : Bool) (a4 : Fl) : Option ((List S38) × Int) :=
  Option.bind (slices_Contains_c aggr_Words a0) fun (y8 : Bool) =>
  bif (!y8) then
  (some ([], 60))
  else
  (Option.bind (aggr_Groups_c a1 a2 a3) fun (y11 : (List (List S38)) × Int) =>
    bif (y11.2 != 0) then
    (some ([], y11.2))
    else
    (Option.bind (loopF 1000000 (aggr_Number_l48_c a0 a2 a3 a4 y11) ([], 0)) fun (r29 : (List S38)) =>
      Option.bind (vec_Vector_c r29) fun (y181 : (List S38) × Int) =>
      some (y181.1, y181.2)))
theorem aggr_Number_ev (a0 : ByteArray) (a1 : List S38) (a2 : List ByteArray) (a3 : Bool) (a4 : Fl) : OLe (aggr_Number_c a0 a1 a2 a3 a4) (aggr_Number a0 a1 a2 a3 a4) := by
  unfold aggr_Number_c aggr_Number
  exact (OLe.bind (slices_Contains_ev _ _) (fun _ => (OLe.cond (OLe.refl _) (OLe.bind (aggr_Groups_ev _ _ _) (fun _ => (OLe.cond (OLe.refl _) (OLe.bind (OLe.loop (fun _ => aggr_Number_l48_ev _ _ _ _ _ _)) (fun _ => (OLe.bind (vec_Vector_ev _) (fun _ => (OLe.refl _)))))))))))
noncomputable def aggr_Fold_c (a0 : ByteArray) (a1 : List Fl) (a2 : Fl) : Option (Fl × Int) :=
  bif ((aggr_fold a0) == 0) then
  (some ((some 0 : Fl), 60))
  else
  (bif ((a1.length : Int) == 0) then
    (some ((some 0 : Fl), 5))
    else
    (Option.bind (tabf_48_c (aggr_fold a0) a1 a2) fun (y4 : Fl) =>
      some ((aggr_told y4), 0)))
theorem aggr_Fold_ev (a0 : ByteArray) (a1 : List Fl) (a2 : Fl) : OLe (aggr_Fold_c a0 a1 a2) (aggr_Fold a0 a1 a2) := by
  unfold aggr_Fold_c aggr_Fold
  exact (OLe.cond (OLe.refl _) (OLe.cond (OLe.refl _) (OLe.bind (tabf_48_ev _ _ _) (fun _ => (OLe.refl _)))))
noncomputable def tocsinlaw16_awake_c : Option Bool :=
  Option.bind (aggr_Number_c (⟨#[115, 117, 109]⟩ : ByteArray) [(⟨[(⟨(⟨#[97]⟩ : ByteArray), (⟨#[49]⟩ : ByteArray)⟩ : S76), (⟨(⟨#[98]⟩ : ByteArray), (⟨#[120]⟩ : ByteArray)⟩ : S76)], (some 4611686018427387904 : Fl)⟩ : S38), (⟨[(⟨(⟨#[97]⟩ : ByteArray), (⟨#[49]⟩ : ByteArray)⟩ : S76), (⟨(⟨#[98]⟩ : ByteArray), (⟨#[121]⟩ : ByteArray)⟩ : S76)], (some 4616189618054758400 : Fl)⟩ : S38)] [(⟨#[97]⟩ : ByteArray)] false (some 0 : Fl)) fun (y27 : (List S38) × Int) =>
  Option.bind (aggr_Fold_c (⟨#[97, 118, 103]⟩ : ByteArray) [(some 4611686018427387904 : Fl), (some 4616189618054758400 : Fl)] (some 0 : Fl)) fun (y44 : Fl × Int) =>
  Option.bind (bif (y27.2 == 0) then
    (bif ((y27.1.length : Int) == 1) then
      (Option.bind (ix y27.1 0) fun (x58 : S38) =>
        bif (fcmp .eql x58.f1 (some 4618441417868443648 : Fl)) then
        (Option.bind (ix y27.1 0) fun (x73 : S38) =>
          bif ((x73.f0.length : Int) == 1) then
          (bif (y44.2 == 0) then
            (some (fcmp .eql y44.1 (some 4613937818241073152 : Fl)))
            else
            (some false))
          else
          (some false))
        else
        (some false))
      else
      (some false))
    else
    (some false)) fun (j51 : Bool) =>
  some j51
theorem tocsinlaw16_awake_ev  : OLe (tocsinlaw16_awake_c ) (tocsinlaw16_awake ) := by
  unfold tocsinlaw16_awake_c tocsinlaw16_awake
  exact (OLe.bind (aggr_Number_ev _ _ _ _ _) (fun _ => (OLe.bind (aggr_Fold_ev _ _ _) (fun _ => (OLe.bind (OLe.cond (OLe.cond (OLe.bind (OLe.refl _) (fun _ => (OLe.cond (OLe.bind (OLe.refl _) (fun _ => (OLe.cond (OLe.cond (OLe.refl _) (OLe.refl _)) (OLe.refl _)))) (OLe.refl _)))) (OLe.refl _)) (OLe.refl _)) (fun _ => (OLe.refl _)))))))
end Go.Proofs.YtkjkkimnjpodiaaGreatDoor

/- What must come of fixed calls comes of them: run out by the kernel. -/
set_option maxRecDepth 100000
namespace Go.Proofs.YtkjkkimnjpodiaaGreatDoor
theorem awake_true : tocsinlaw16_awake = some true := tocsinlaw16_awake_ev _ (by kernel_rfl)
end Go.Proofs.YtkjkkimnjpodiaaGreatDoor

set_option linter.unusedVariables false
set_option linter.unusedSimpArgs false
set_option maxRecDepth 100000
namespace Go.Proofs.YtkjkkimnjpodiaaGreatDoor
open Go.GB Go.Lib
/-- Are all names right? -/
noncomputable def namesB (l : List ByteArray) : Bool := l.all fun s => namedB s 64 false
theorem wrong_eq (l : List ByteArray) (hl : l.length < 2147483648) : aggr_wrong l = some (bif namesB l then 0 else 40) := by
  unfold aggr_wrong
  rw [up_any (n := l.length) (fun j => (l[j]?).any fun s => !(namedB s 64 false)) (40 : Int) (fun j hj => ?_) ?_, any_range]
  · have : (l.any fun s => !(namedB s 64 false)) = !namesB l := by unfold namesB; rw [List.not_all_eq_any_not]
    rw [this]
    cases namesB l <;> rfl
  · unfold aggr_wrong_l17
    rw [show decide ((l.length : Int) < (l.length : Int)) = false from decide_eq_false (by omega)]; rfl
  · unfold aggr_wrong_l17
    rw [show decide ((j : Int) < (l.length : Int)) = true from decide_eq_true (by omega)]
    simp only [cond_true, ix_nat, List.getElem?_eq_getElem hj, Option.bind_some, wrap_up (show j < 4294967296 by omega), Name_eq, Option.any_some]
    cases namedB l[j] 64 false <;> rfl
theorem Named_eq (l : List ByteArray) (hl : l.length < 2147483648) : tocsinref16_Named l = some (namesB l) := by
  unfold tocsinref16_Named
  rw [up_any (n := l.length) (fun j => (l[j]?).any fun s => !(namedB s 64 false)) false (fun j hj => ?_) ?_, any_range]
  · have : (l.any fun s => !(namedB s 64 false)) = !namesB l := by unfold namesB; rw [List.not_all_eq_any_not]
    rw [this]
    cases namesB l <;> rfl
  · unfold tocsinref16_Named_l17
    rw [show decide ((l.length : Int) < (l.length : Int)) = false from decide_eq_false (by omega)]; rfl
  · unfold tocsinref16_Named_l17
    rw [show decide ((j : Int) < (l.length : Int)) = true from decide_eq_true (by omega)]
    simp only [cond_true, ix_nat, List.getElem?_eq_getElem hj, Option.bind_some, wrap_up (show j < 4294967296 by omega), refName_eq, Option.any_some]
    cases namedB l[j] 64 false <;> rfl
def nameS : ByteArray := ⟨#[95, 95, 110, 97, 109, 101, 95, 95]⟩
/-- The labels of a group. -/
noncomputable def groupE (l : List LB) (names : List ByteArray) (without : Bool) : List LB := bif without then l.filter fun x => (hasB (names ++ [nameS]) x.f0 == false) else l.filter fun x => (hasB names x.f0 == true)
theorem group_eq {l : List LB} (h : (rightE l).1 = 0) (names : List ByteArray) (w : Bool) (hn : names.length < 2147483000) : aggr_group l names w = some (groupE l names w) := by
  have hl := (right_parts h).1
  unfold aggr_group groupE
  cases w with
  | true =>
    simp only [cond_true]
    unfold slices_Clone
    rw [app_eq (by simp; omega)]
    simp only [Option.bind_some, List.nil_append]
    rw [app_eq (by simp; omega)]
    simp only [Option.bind_some]
    rw [Without_eq l _ (by omega) (by simp; omega), keepE_right h]
    rfl
  | false =>
    simp only [cond_false]
    rw [Keep_eq l _ (by omega) (by omega), keepE_right h]
    rfl
theorem refGroup_eq {l : List LB} (h : (rightE l).1 = 0) (names : List ByteArray) (w : Bool) (hn : names.length < 2147483000) : tocsinref16_group l names w = some (groupE l names w) := by
  have hl := (right_parts h).1
  unfold tocsinref16_group groupE
  cases w with
  | true =>
    simp only [cond_true]
    rw [app_eq (by simp; omega)]
    simp only [Option.bind_some, List.nil_append]
    rw [app_eq (by simp; omega)]
    simp only [Option.bind_some]
    rw [refPick_eq l _ _ (by omega) (by simp; omega)]
    rfl
  | false =>
    simp only [cond_false]
    rw [refPick_eq l _ _ (by omega) (by omega)]
    rfl
/-- What Group answers. -/
noncomputable def GroupE (l : List LB) (names : List ByteArray) (w : Bool) : List LB × Int := bif (rightE l).1 != 0 then ([], (rightE l).1) else bif namesB names then (groupE l names w, 0) else ([], 40)
theorem Group_eq (l : List LB) (names : List ByteArray) (w : Bool) (hn : names.length < 2147483000) : aggr_Group l names w = some (GroupE l names w) := by
  unfold aggr_Group GroupE
  simp only [Right_eq, Option.bind_some]
  by_cases h : (rightE l).1 = 0
  · rw [show ((rightE l).1 != 0) = false by simpa using h]
    simp only [cond_false, wrong_eq names (by omega), Option.bind_some]
    cases namesB names with
    | true => simp only [cond_true]; rw [group_eq h names w hn]; rfl
    | false => rfl
  · rw [show ((rightE l).1 != 0) = true by simpa using h]; rfl
theorem refGroupE_eq (l : List LB) (names : List ByteArray) (w : Bool) (hn : names.length < 2147483000) : tocsinref16_Group l names w = some (GroupE l names w) := by
  unfold tocsinref16_Group GroupE
  simp only [refRight_eq, Option.bind_some]
  by_cases h : (rightE l).1 = 0
  · rw [show ((rightE l).1 != 0) = false by simpa using h]
    simp only [cond_false, Named_eq names (by omega), Option.bind_some]
    cases namesB names with
    | true => simp only [cond_true, Bool.not_true, cond_false]; rw [refGroup_eq h names w hn]; rfl
    | false => rfl
  · rw [show ((rightE l).1 != 0) = true by simpa using h]; rfl
theorem GroupE_len (l : List LB) (names : List ByteArray) (w : Bool) : (GroupE l names w).1.length ≤ l.length := by
  unfold GroupE groupE
  cases (rightE l).1 != 0
  · cases namesB names
    · simp
    · cases w <;> exact List.length_filter_le _ _
  · simp
theorem tocsinlaw16_AggrGroup_true {I : Imm} {c0 c1 c2 : List Value} {n0 n1 n2 : Nat} (a0 : List S76) (a1 : List ByteArray) (a2 : Bool) (h0 : (Kd.sl kS76).R I a0 c0) (h1 : (Kd.sl Kd.str).R I a1 c1) (h2 : Kd.bool.R I a2 c2)
    (w0 : wSl wS76 a0 n0) (w1 : wSl wStr a1 n1) (w2 : wBool a2 n2) (hn : n0 + n1 + n2 ≤ 1048576) : tocsinlaw16_AggrGroup a0 a1 a2 = some true := by
  have l0 := w0.len
  have l1 := w1.len
  unfold tocsinlaw16_AggrGroup
  rw [Group_eq a0 a1 a2 (by omega), refGroupE_eq a0 a1 a2 (by omega)]
  have hl := GroupE_len a0 a1 a2
  generalize GroupE a0 a1 a2 = g at hl ⊢
  simp only [Option.bind_some]
  rw [refSame_eq _ _ (by omega), cmpL_self]
  simp [awake_true]
end Go.Proofs.YtkjkkimnjpodiaaGreatDoor
