/- Plain laws: Parse: the program's is the document's. -/
import Derived.Test.YtnlkfajnaelnnaaGreatDoorGB30k
import Derived.Test.YtnlkfajnaelnnaaGreatDoorPA3k
import Derived.Test.YtnlkfajnaelnnaaGreatDoorPX8k
/- Stable sorting: what is a stable sort of a list, and that there is one alone. -/
set_option linter.unusedVariables false
set_option linter.unusedSimpArgs false
namespace Go.GB
section
variable {α : Type}
/-- A strict weak order. -/
structure Swo (lt : α → α → Bool) : Prop where
  asymm : ∀ a b, lt a b = true → lt b a = false
  trans : ∀ a b c, lt b a = false → lt c b = false → lt c a = false
variable {lt : α → α → Bool}
theorem Swo.irrefl (h : Swo lt) (a : α) : lt a a = false := by
  cases e : lt a a with
  | false => rfl
  | true => have := h.asymm a a e; rw [e] at this; exact this
/-- x < y, y ≤ z: x < z. -/
theorem Swo.lt_le (h : Swo lt) {a b c : α} (h1 : lt a b = true) (h2 : lt c b = false) : lt a c = true := by
  cases e : lt a c with
  | true => rfl
  | false => have := h.trans b c a h2 e; rw [h1] at this; cases this
theorem Swo.le_lt (h : Swo lt) {a b c : α} (h1 : lt b a = false) (h2 : lt b c = true) : lt a c = true := by
  cases e : lt a c with
  | true => rfl
  | false => have := h.trans c a b e h1; rw [h2] at this; cases this
def eqv (lt : α → α → Bool) (k x : α) : Bool := !lt k x && !lt x k
theorem eqv_iff {k x : α} : eqv lt k x = true ↔ lt k x = false ∧ lt x k = false := by simp [eqv]
theorem Swo.eqv_self (h : Swo lt) (a : α) : eqv lt a a = true := by simp [eqv, h.irrefl]
def Sorted (lt : α → α → Bool) (l : List α) : Prop := l.Pairwise fun a b => lt b a = false
def FE (lt : α → α → Bool) (l m : List α) : Prop := ∀ k, l.filter (eqv lt k) = m.filter (eqv lt k)
theorem FE.refl (l : List α) : FE lt l l := fun _ => rfl
theorem FE.symm {l m : List α} (h : FE lt l m) : FE lt m l := fun k => (h k).symm
theorem FE.trans {l m n : List α} (h : FE lt l m) (h' : FE lt m n) : FE lt l n := fun k => (h k).trans (h' k)
theorem FE.append {l m l' m' : List α} (h : FE lt l m) (h' : FE lt l' m') : FE lt (l ++ l') (m ++ m') := fun k => by rw [List.filter_append, List.filter_append, h k, h' k]
theorem FE.mid {P S l m : List α} (h : FE lt l m) : FE lt (P ++ l ++ S) (P ++ m ++ S) := ((FE.refl P).append h).append (FE.refl S)
theorem FE.mem (hs : Swo lt) {l m : List α} (h : FE lt l m) {x : α} (hx : x ∈ l) : x ∈ m := by
  have : x ∈ l.filter (eqv lt x) := List.mem_filter.2 ⟨hx, hs.eqv_self x⟩
  rw [h x] at this
  exact (List.mem_filter.1 this).1
/-- Two parts of which one stands all below the other change places. -/
theorem FE.swap (hs : Swo lt) {X Y : List α} (h : ∀ x ∈ X, ∀ y ∈ Y, lt y x = true) : FE lt (X ++ Y) (Y ++ X) := fun k => by
  rw [List.filter_append, List.filter_append]
  by_cases hx : X.filter (eqv lt k) = []
  · rw [hx]; simp
  · have hy : Y.filter (eqv lt k) = [] := by
      rw [List.filter_eq_nil_iff]
      intro y hy hk
      obtain ⟨x, hx'⟩ := List.exists_mem_of_ne_nil _ hx
      obtain ⟨hxX, hxk⟩ := List.mem_filter.1 hx'
      have h1 := h x hxX y hy
      have h2 := hs.trans x k y (eqv_iff.1 hxk).1 (eqv_iff.1 hk).2
      rw [h1] at h2; cases h2
    rw [hy]; simp
theorem Sorted.uniq (hs : Swo lt) : ∀ {a b : List α}, Sorted lt a → Sorted lt b → FE lt a b → a = b
  | [], [], _, _, _ => rfl
  | [], y :: b, _, _, h => by have := h.symm.mem hs (x := y) (by simp); cases this
  | x :: a, [], _, _, h => by have := h.mem hs (x := x) (by simp); cases this
  | x :: a, y :: b, ha, hb, h => by
    have ha' := List.pairwise_cons.1 ha
    have hb' := List.pairwise_cons.1 hb
    have hxy : lt x y = false := by
      rcases List.mem_cons.1 (h.mem hs (x := x) (by simp)) with rfl | hx
      · exact hs.irrefl _
      · exact hb'.1 x hx
    have hyx : lt y x = false := by
      rcases List.mem_cons.1 (h.symm.mem hs (x := y) (by simp)) with rfl | hy
      · exact hs.irrefl _
      · exact ha'.1 y hy
    have e1 := h x
    rw [List.filter_cons_of_pos (hs.eqv_self x), List.filter_cons_of_pos (eqv_iff.2 ⟨hxy, hyx⟩)] at e1
    simp only [List.cons.injEq] at e1
    obtain ⟨rfl, _⟩ := e1
    congr 1
    refine Sorted.uniq hs ha'.2 hb'.2 fun k => ?_
    have e2 := h k
    by_cases hk : eqv lt k x = true
    · rw [List.filter_cons_of_pos hk, List.filter_cons_of_pos hk] at e2
      simpa using e2
    · rw [List.filter_cons_of_neg hk, List.filter_cons_of_neg hk] at e2
      exact e2
/-- m is l, stably sorted. -/
def StS (lt : α → α → Bool) (l m : List α) : Prop := FE lt m l ∧ Sorted lt m
theorem StS.uniq (hs : Swo lt) {l a b : List α} (ha : StS lt l a) (hb : StS lt l b) : a = b := Sorted.uniq hs ha.2 hb.2 (ha.1.trans hb.1.symm)
theorem FE.length (hs : Swo lt) : ∀ (n : Nat) {a b : List α}, a.length = n → FE lt a b → b.length = n
  | 0, a, b, hn, h => by
    cases b with
    | nil => rfl
    | cons y b => have := h.symm.mem hs (x := y) (by simp); rw [List.length_eq_zero_iff.1 hn] at this; cases this
  | n + 1, a, b, hn, h => by
    cases a with
    | nil => cases hn
    | cons x a =>
      have hx := h.mem hs (x := x) (by simp)
      have hne : b.filter (eqv lt x) ≠ [] := fun e => by
        have : x ∈ b.filter (eqv lt x) := List.mem_filter.2 ⟨hx, hs.eqv_self x⟩
        rw [e] at this; cases this
      -- the first of x's class in b is x
      have e1 := h x
      rw [List.filter_cons_of_pos (hs.eqv_self x)] at e1
      obtain ⟨b1, b2, hb, hb1⟩ : ∃ b1 b2, b = b1 ++ x :: b2 ∧ ∀ z ∈ b1, eqv lt x z = false := by
        clear hn h hx hne
        induction b with
        | nil => cases e1
        | cons z b ih =>
          by_cases hz : eqv lt x z = true
          · rw [List.filter_cons_of_pos hz] at e1
            simp only [List.cons.injEq] at e1
            obtain ⟨rfl, _⟩ := e1
            exact ⟨[], b, rfl, fun z hz => by cases hz⟩
          · rw [List.filter_cons_of_neg hz] at e1
            obtain ⟨b1, b2, rfl, h1⟩ := ih e1
            exact ⟨z :: b1, b2, rfl, fun w hw => by
              rcases List.mem_cons.1 hw with rfl | hw
              · simpa using hz
              · exact h1 w hw⟩
      have h2 : FE lt a (b1 ++ b2) := fun k => by
        have e2 := h k
        rw [hb, List.filter_append] at e2
        rw [List.filter_append]
        by_cases hk : eqv lt k x = true
        · rw [List.filter_cons_of_pos hk, List.filter_cons_of_pos hk] at e2
          have h0 : b1.filter (eqv lt k) = [] := by
            rw [List.filter_eq_nil_iff]
            intro z hz hkz
            have h1 := hb1 z hz
            have h3 := eqv_iff.1 hk
            have h4 := eqv_iff.1 hkz
            have : eqv lt x z = true := eqv_iff.2 ⟨hs.trans z k x h4.1 h3.2, hs.trans x k z h3.1 h4.2⟩
            rw [this] at h1; cases h1
          rw [h0] at e2 ⊢
          simpa using e2
        · rw [List.filter_cons_of_neg hk, List.filter_cons_of_neg hk] at e2
          exact e2
      have := FE.length hs n (by simpa using hn) h2
      rw [hb]; simp at this ⊢; omega
end
end Go.GB

/- Stable sorting: the library's swaps, rotations and binary searches. -/
set_option linter.unusedVariables false
set_option linter.unusedSimpArgs false
namespace Go.GB
noncomputable def gswapRange_l25 {α : Type} (cf : α → α → Int) (a1 : Int) (a2 : Int) (a3 : Int) : ((List α) × Int) → Option (((List α) × Int) ⊕ ((List α))) := fun s10 =>
  bif (decide (s10.2 < a3)) then
  (Option.bind (ix s10.1 (IntKind.wrap .i64 (a2 + s10.2))) fun (x28 : α) =>
    Option.bind (ix s10.1 (IntKind.wrap .i64 (a1 + s10.2))) fun (x37 : α) =>
    Option.bind (ix s10.1 (IntKind.wrap .i64 (a1 + s10.2))) fun (x46 : α) =>
    Option.bind (ix (lset s10.1 (IntKind.wrap .i64 (a1 + s10.2)) x28) (IntKind.wrap .i64 (a2 + s10.2))) fun (x58 : α) =>
    some (Sum.inl ((lset (lset s10.1 (IntKind.wrap .i64 (a1 + s10.2)) x28) (IntKind.wrap .i64 (a2 + s10.2)) x37), (IntKind.wrap .i64 (s10.2 + 1)))))
  else
  (some (Sum.inr s10.1))
noncomputable def gswapRange {α : Type} (cf : α → α → Int) (a0 : List α) (a1 : Int) (a2 : Int) (a3 : Int) : Option (List α) :=
  Option.bind (loopO (gswapRange_l25 cf a1 a2 a3) (a0, 0)) fun (r8 : (List α)) =>
  some r8
noncomputable def grotate_l25 {α : Type} (cf : α → α → Int) (a2 : Int) : ((List α) × Int × Int) → Option (((List α) × Int × Int) ⊕ ((List α) × Int)) := fun s10 =>
  bif (s10.2.1 != s10.2.2) then
  (Option.bind (bif (decide (s10.2.1 > s10.2.2)) then
      (Option.bind (gswapRange cf s10.1 (IntKind.wrap .i64 (a2 - s10.2.1)) a2 s10.2.2) fun (y37 : (List α)) =>
        some (y37, (IntKind.wrap .i64 (s10.2.1 - s10.2.2)), s10.2.2))
      else
      (Option.bind (gswapRange cf s10.1 (IntKind.wrap .i64 (a2 - s10.2.1)) (IntKind.wrap .i64 ((IntKind.wrap .i64 (a2 + s10.2.2)) - s10.2.1)) s10.2.1) fun (y45 : (List α)) =>
        some (y45, s10.2.1, (IntKind.wrap .i64 (s10.2.2 - s10.2.1))))) fun (j28 : (List α) × Int × Int) =>
    some (Sum.inl (j28.1, j28.2.1, j28.2.2)))
  else
  (some (Sum.inr (s10.1, s10.2.1)))
noncomputable def grotate {α : Type} (cf : α → α → Int) (a0 : List α) (a1 : Int) (a2 : Int) (a3 : Int) : Option (List α) :=
  Option.bind (loopO (grotate_l25 cf a2) (a0, (IntKind.wrap .i64 (a2 - a1)), (IntKind.wrap .i64 (a3 - a2)))) fun (r8 : (List α) × Int) =>
  Option.bind (gswapRange cf r8.1 (IntKind.wrap .i64 (a2 - r8.2)) a2 r8.2) fun (y53 : (List α)) =>
  some y53
noncomputable def gsymMerge_l17 {α : Type} (cf : α → α → Int) (a0 : List α) (a1 : Int) : (Int × Int) → Option ((Int × Int) ⊕ (Int)) := fun s8 =>
  bif (decide (s8.1 < s8.2)) then
  (Option.bind (ix a0 (IntKind.wrap .i64 (shr .u64 (IntKind.wrap .u64 (IntKind.wrap .i64 (s8.1 + s8.2))) 1))) fun (x20 : α) =>
    Option.bind (ix a0 a1) fun (x29 : α) =>
    Option.bind (bif (decide ((cf x20 x29) < 0)) then
      (some ((IntKind.wrap .i64 ((IntKind.wrap .i64 (shr .u64 (IntKind.wrap .u64 (IntKind.wrap .i64 (s8.1 + s8.2))) 1)) + 1)), s8.2))
      else
      (some (s8.1, (IntKind.wrap .i64 (shr .u64 (IntKind.wrap .u64 (IntKind.wrap .i64 (s8.1 + s8.2))) 1))))) fun (j38 : Int × Int) =>
    some (Sum.inl (j38.1, j38.2)))
  else
  (some (Sum.inr s8.1))
noncomputable def gsymMerge_l68 {α : Type} (cf : α → α → Int) (r6 : Int) : ((List α) × Int) → Option (((List α) × Int) ⊕ ((List α))) := fun s53 =>
  bif (decide (s53.2 < (IntKind.wrap .i64 (r6 - 1)))) then
  (Option.bind (ix s53.1 (IntKind.wrap .i64 (s53.2 + 1))) fun (x71 : α) =>
    Option.bind (ix s53.1 s53.2) fun (x80 : α) =>
    Option.bind (ix s53.1 s53.2) fun (x89 : α) =>
    Option.bind (ix (lset s53.1 s53.2 x71) (IntKind.wrap .i64 (s53.2 + 1))) fun (x101 : α) =>
    some (Sum.inl ((lset (lset s53.1 s53.2 x71) (IntKind.wrap .i64 (s53.2 + 1)) x80), (IntKind.wrap .i64 (s53.2 + 1)))))
  else
  (some (Sum.inr s53.1))
noncomputable def gsymMerge_l129 {α : Type} (cf : α → α → Int) (a0 : List α) (a2 : Int) : (Int × Int) → Option ((Int × Int) ⊕ (Int)) := fun s120 =>
  bif (decide (s120.1 < s120.2)) then
  (Option.bind (ix a0 a2) fun (x132 : α) =>
    Option.bind (ix a0 (IntKind.wrap .i64 (shr .u64 (IntKind.wrap .u64 (IntKind.wrap .i64 (s120.1 + s120.2))) 1))) fun (x141 : α) =>
    Option.bind (bif (!(decide ((cf x132 x141) < 0))) then
      (some ((IntKind.wrap .i64 ((IntKind.wrap .i64 (shr .u64 (IntKind.wrap .u64 (IntKind.wrap .i64 (s120.1 + s120.2))) 1)) + 1)), s120.2))
      else
      (some (s120.1, (IntKind.wrap .i64 (shr .u64 (IntKind.wrap .u64 (IntKind.wrap .i64 (s120.1 + s120.2))) 1))))) fun (j150 : Int × Int) =>
    some (Sum.inl (j150.1, j150.2)))
  else
  (some (Sum.inr s120.1))
noncomputable def gsymMerge_l180 {α : Type} (cf : α → α → Int) (r118 : Int) : ((List α) × Int) → Option (((List α) × Int) ⊕ ((List α))) := fun s165 =>
  bif (decide (s165.2 > r118)) then
  (Option.bind (ix s165.1 (IntKind.wrap .i64 (s165.2 - 1))) fun (x183 : α) =>
    Option.bind (ix s165.1 s165.2) fun (x192 : α) =>
    Option.bind (ix s165.1 s165.2) fun (x201 : α) =>
    Option.bind (ix (lset s165.1 s165.2 x183) (IntKind.wrap .i64 (s165.2 - 1))) fun (x213 : α) =>
    some (Sum.inl ((lset (lset s165.1 s165.2 x183) (IntKind.wrap .i64 (s165.2 - 1)) x192), (IntKind.wrap .i64 (s165.2 - 1)))))
  else
  (some (Sum.inr s165.1))
noncomputable def gsymMerge_l246 {α : Type} (cf : α → α → Int) (a0 : List α) (a1 : Int) (a2 : Int) (a3 : Int) : (Int × Int) → Option ((Int × Int) ⊕ (Int)) := fun s237 =>
  bif (decide (s237.1 < s237.2)) then
  (Option.bind (ix a0 (IntKind.wrap .i64 ((IntKind.wrap .i64 ((IntKind.wrap .i64 ((IntKind.wrap .i64 (shr .u64 (IntKind.wrap .u64 (IntKind.wrap .i64 (a1 + a3))) 1)) + a2)) - 1)) - (IntKind.wrap .i64 (shr .u64 (IntKind.wrap .u64 (IntKind.wrap .i64 (s237.1 + s237.2))) 1))))) fun (x249 : α) =>
    Option.bind (ix a0 (IntKind.wrap .i64 (shr .u64 (IntKind.wrap .u64 (IntKind.wrap .i64 (s237.1 + s237.2))) 1))) fun (x258 : α) =>
    Option.bind (bif (!(decide ((cf x249 x258) < 0))) then
      (some ((IntKind.wrap .i64 ((IntKind.wrap .i64 (shr .u64 (IntKind.wrap .u64 (IntKind.wrap .i64 (s237.1 + s237.2))) 1)) + 1)), s237.2))
      else
      (some (s237.1, (IntKind.wrap .i64 (shr .u64 (IntKind.wrap .u64 (IntKind.wrap .i64 (s237.1 + s237.2))) 1))))) fun (j267 : Int × Int) =>
    some (Sum.inl (j267.1, j267.2)))
  else
  (some (Sum.inr s237.1))
noncomputable def gsymMerge_b {α : Type} (cf : α → α → Int) (rec_ : (List α) → Int → Int → Int → Option (List α)) (a0 : List α) (a1 : Int) (a2 : Int) (a3 : Int) : Option (List α) :=
  bif ((IntKind.wrap .i64 (a2 - a1)) == 1) then
  (Option.bind (loopO (gsymMerge_l17 cf a0 a1) (a2, a3)) fun (r6 : Int) =>
    Option.bind (loopO (gsymMerge_l68 cf r6) (a0, a1)) fun (r51 : (List α)) =>
    some r51)
  else
  (bif ((IntKind.wrap .i64 (a3 - a2)) == 1) then
    (Option.bind (loopO (gsymMerge_l129 cf a0 a2) (a1, a2)) fun (r118 : Int) =>
      Option.bind (loopO (gsymMerge_l180 cf r118) (a0, a2)) fun (r163 : (List α)) =>
      some r163)
    else
    (Option.bind (bif (decide (a2 > (IntKind.wrap .i64 (shr .u64 (IntKind.wrap .u64 (IntKind.wrap .i64 (a1 + a3))) 1)))) then
        (some ((IntKind.wrap .i64 ((IntKind.wrap .i64 ((IntKind.wrap .i64 (shr .u64 (IntKind.wrap .u64 (IntKind.wrap .i64 (a1 + a3))) 1)) + a2)) - a3)), (IntKind.wrap .i64 (shr .u64 (IntKind.wrap .u64 (IntKind.wrap .i64 (a1 + a3))) 1))))
        else
        (some (a1, a2))) fun (j225 : Int × Int) =>
      Option.bind (loopO (gsymMerge_l246 cf a0 a1 a2 a3) (j225.1, j225.2)) fun (r235 : Int) =>
      Option.bind (bif ((decide (r235 < a2)) && (decide (a2 < (IntKind.wrap .i64 ((IntKind.wrap .i64 ((IntKind.wrap .i64 (shr .u64 (IntKind.wrap .u64 (IntKind.wrap .i64 (a1 + a3))) 1)) + a2)) - r235))))) then
        (Option.bind (grotate cf a0 r235 a2 (IntKind.wrap .i64 ((IntKind.wrap .i64 ((IntKind.wrap .i64 (shr .u64 (IntKind.wrap .u64 (IntKind.wrap .i64 (a1 + a3))) 1)) + a2)) - r235))) fun (y288 : (List α)) =>
          some y288)
        else
        (some a0)) fun (j279 : (List α)) =>
      Option.bind (bif ((decide (a1 < r235)) && (decide (r235 < (IntKind.wrap .i64 (shr .u64 (IntKind.wrap .u64 (IntKind.wrap .i64 (a1 + a3))) 1))))) then
        (Option.bind (rec_ j279 a1 r235 (IntKind.wrap .i64 (shr .u64 (IntKind.wrap .u64 (IntKind.wrap .i64 (a1 + a3))) 1))) fun (y311 : (List α)) =>
          some y311)
        else
        (some j279)) fun (j302 : (List α)) =>
      Option.bind (bif ((decide ((IntKind.wrap .i64 (shr .u64 (IntKind.wrap .u64 (IntKind.wrap .i64 (a1 + a3))) 1)) < (IntKind.wrap .i64 ((IntKind.wrap .i64 ((IntKind.wrap .i64 (shr .u64 (IntKind.wrap .u64 (IntKind.wrap .i64 (a1 + a3))) 1)) + a2)) - r235)))) && (decide ((IntKind.wrap .i64 ((IntKind.wrap .i64 ((IntKind.wrap .i64 (shr .u64 (IntKind.wrap .u64 (IntKind.wrap .i64 (a1 + a3))) 1)) + a2)) - r235)) < a3))) then
        (Option.bind (rec_ j302 (IntKind.wrap .i64 (shr .u64 (IntKind.wrap .u64 (IntKind.wrap .i64 (a1 + a3))) 1)) (IntKind.wrap .i64 ((IntKind.wrap .i64 ((IntKind.wrap .i64 (shr .u64 (IntKind.wrap .u64 (IntKind.wrap .i64 (a1 + a3))) 1)) + a2)) - r235)) a3) fun (y334 : (List α)) =>
          some y334)
        else
        (some j302)) fun (j325 : (List α)) =>
      some j325))
noncomputable def gsymMerge {α : Type} (cf : α → α → Int) (a0 : List α) (a1 : Int) (a2 : Int) (a3 : Int) : Option (List α) :=
  iterF (fun (rec_ : ((List α) × Int × Int × Int) → Option (List α)) (x : (List α) × Int × Int × Int) => gsymMerge_b cf (fun a0 a1 a2 a3 => rec_ (a0, a1, a2, a3)) x.1 x.2.1 x.2.2.1 x.2.2.2) 4294967296 (a0, a1, a2, a3)
noncomputable def ginsertionSort_l52 {α : Type} (cf : α → α → Int) (a1 : Int) : ((List α) × Int) → Option (((List α) × Int) ⊕ ((List α))) := fun s37 =>
  Option.bind (bif (decide (s37.2 > a1)) then
    (Option.bind (ix s37.1 s37.2) fun (x60 : α) =>
      Option.bind (ix s37.1 (IntKind.wrap .i64 (s37.2 - 1))) fun (x69 : α) =>
      some (decide ((cf x60 x69) < 0)))
    else
    (some false)) fun (j54 : Bool) =>
  bif j54 then
  (Option.bind (ix s37.1 (IntKind.wrap .i64 (s37.2 - 1))) fun (x79 : α) =>
    Option.bind (ix s37.1 s37.2) fun (x88 : α) =>
    Option.bind (ix s37.1 s37.2) fun (x97 : α) =>
    Option.bind (ix (lset s37.1 s37.2 x79) (IntKind.wrap .i64 (s37.2 - 1))) fun (x109 : α) =>
    some (Sum.inl ((lset (lset s37.1 s37.2 x79) (IntKind.wrap .i64 (s37.2 - 1)) x88), (IntKind.wrap .i64 (s37.2 - 1)))))
  else
  (some (Sum.inr s37.1))
noncomputable def ginsertionSort_l25 {α : Type} (cf : α → α → Int) (a1 : Int) (a2 : Int) : ((List α) × Int) → Option (((List α) × Int) ⊕ ((List α))) := fun s10 =>
  bif (decide (s10.2 < a2)) then
  (Option.bind (loopO (ginsertionSort_l52 cf a1) (s10.1, s10.2)) fun (r35 : (List α)) =>
    some (Sum.inl (r35, (IntKind.wrap .i64 (s10.2 + 1)))))
  else
  (some (Sum.inr s10.1))
noncomputable def ginsertionSort {α : Type} (cf : α → α → Int) (a0 : List α) (a1 : Int) (a2 : Int) : Option (List α) :=
  Option.bind (loopO (ginsertionSort_l25 cf a1 a2) (a0, (IntKind.wrap .i64 (a1 + 1)))) fun (r8 : (List α)) =>
  some r8
noncomputable def gstable_l25 {α : Type} (cf : α → α → Int) (a1 : Int) : ((List α) × Int × Int) → Option (((List α) × Int × Int) ⊕ ((List α) × Int)) := fun s10 =>
  bif (decide (s10.2.2 ≤ a1)) then
  (Option.bind (ginsertionSort cf s10.1 s10.2.1 s10.2.2) fun (y28 : (List α)) =>
    some (Sum.inl (y28, s10.2.2, (IntKind.wrap .i64 (s10.2.2 + 20)))))
  else
  (some (Sum.inr (s10.1, s10.2.1)))
noncomputable def gstable_l95 {α : Type} (cf : α → α → Int) (a1 : Int) (s53 : (List α) × Int) : ((List α) × Int × Int) → Option (((List α) × Int × Int) ⊕ ((List α) × Int)) := fun s80 =>
  bif (decide (s80.2.2 ≤ a1)) then
  (Option.bind (gsymMerge cf s80.1 s80.2.1 (IntKind.wrap .i64 (s80.2.1 + s53.2)) s80.2.2) fun (y98 : (List α)) =>
    some (Sum.inl (y98, s80.2.2, (IntKind.wrap .i64 (s80.2.2 + (IntKind.wrap .i64 (2 * s53.2)))))))
  else
  (some (Sum.inr (s80.1, s80.2.1)))
noncomputable def gstable_l68 {α : Type} (cf : α → α → Int) (a1 : Int) : ((List α) × Int) → Option (((List α) × Int) ⊕ ((List α))) := fun s53 =>
  bif (decide (s53.2 < a1)) then
  (Option.bind (loopO (gstable_l95 cf a1 s53) (s53.1, 0, (IntKind.wrap .i64 (2 * s53.2)))) fun (r78 : (List α) × Int) =>
    Option.bind (bif (decide ((IntKind.wrap .i64 (r78.2 + s53.2)) < a1)) then
      (Option.bind (gsymMerge cf r78.1 r78.2 (IntKind.wrap .i64 (r78.2 + s53.2)) a1) fun (y115 : (List α)) =>
        some y115)
      else
      (some r78.1)) fun (j106 : (List α)) =>
    some (Sum.inl (j106, (IntKind.wrap .i64 (s53.2 * 2)))))
  else
  (some (Sum.inr s53.1))
noncomputable def gstable {α : Type} (cf : α → α → Int) (a0 : List α) (a1 : Int) : Option (List α) :=
  Option.bind (loopO (gstable_l25 cf a1) (a0, 0, 20)) fun (r8 : (List α) × Int) =>
  Option.bind (ginsertionSort cf r8.1 r8.2 a1) fun (y36 : (List α)) =>
  Option.bind (loopO (gstable_l68 cf a1) (y36, 20)) fun (r51 : (List α)) =>
  some r51
noncomputable def gSortStable {α : Type} (cf : α → α → Int) (a0 : List α) : Option (List α) :=
  Option.bind (gstable cf a0 (a0.length : Int)) fun (y1 : (List α)) =>
  some y1
section
variable {α : Type} {cf : α → α → Int}
theorem ix_at {l A B : List α} {x : α} {i : Int} (hl : l = A ++ x :: B) (hi : i = (A.length : Int)) : ix l i = some x := by
  subst hl; subst hi; rw [ix_nat]; simp
theorem lset_at {l A B : List α} {x y : α} {i : Int} (hl : l = A ++ x :: B) (hi : i = (A.length : Int)) : lset l i y = A ++ y :: B := by
  subst hl; subst hi; simp [lset]
/-- Two elements change places. -/
theorem ex_up {l A B C : List α} {x y : α} {i j : Int} (hl : l = A ++ x :: (B ++ y :: C)) (hi : i = (A.length : Int)) (hj : j = ((A.length + 1 + B.length : Nat) : Int)) :
    ix l i = some x ∧ ix l j = some y ∧ ix (lset l i y) j = some y ∧ lset (lset l i y) j x = A ++ y :: (B ++ x :: C) := by
  have h1 : lset l i y = (A ++ y :: B) ++ y :: C := by rw [lset_at hl hi]; simp
  have hj' : j = ((A ++ y :: B).length : Int) := by rw [hj]; simp; omega
  refine ⟨ix_at hl hi, ix_at (A := A ++ x :: B) (B := C) (by rw [hl]; simp) (by rw [hj]; simp; omega), ix_at h1 hj', ?_⟩
  rw [lset_at h1 hj']; simp
theorem ex_down {l A B C : List α} {x y : α} {i j : Int} (hl : l = A ++ x :: (B ++ y :: C)) (hi : i = (A.length : Int)) (hj : j = ((A.length + 1 + B.length : Nat) : Int)) :
    ix l i = some x ∧ ix l j = some y ∧ ix (lset l j x) i = some x ∧ lset (lset l j x) i y = A ++ y :: (B ++ x :: C) := by
  have h0 : ix l j = some y := ix_at (A := A ++ x :: B) (B := C) (by rw [hl]; simp) (by rw [hj]; simp; omega)
  have h1 : lset l j x = A ++ x :: (B ++ x :: C) := by
    rw [lset_at (A := A ++ x :: B) (B := C) (x := y) (by rw [hl]; simp) (by rw [hj]; simp; omega)]; simp
  refine ⟨ix_at hl hi, h0, ix_at h1 hi, ?_⟩
  rw [lset_at h1 hi]
/-- Exchange of two ranges of one length. -/
theorem gswapRange_loop (P M S : List α) (a b n : Nat) (ha : a = P.length) (hb : b = P.length + n + M.length) (hn : b + n < 4294967296) :
    ∀ (X2 Y2 X1 Y1 : List α), X2.length = Y2.length → X1.length = Y1.length → n = X1.length + X2.length →
      loopO (gswapRange_l25 cf (a : Int) (b : Int) (n : Int)) (P ++ (Y1 ++ (X2 ++ (M ++ (X1 ++ (Y2 ++ S))))), (X1.length : Int)) = some (P ++ ((Y1 ++ Y2) ++ (M ++ ((X1 ++ X2) ++ S)))) := by
  intro X2
  induction X2 with
  | nil =>
    intro Y2 X1 Y1 h2 h1 hn'
    have : Y2 = [] := List.length_eq_zero_iff.1 h2.symm
    subst this
    rw [loopO_done (r := P ++ (Y1 ++ ([] ++ (M ++ (X1 ++ ([] ++ S)))))) (by
      unfold gswapRange_l25
      rw [show decide (((X1.length : Nat) : Int) < (n : Int)) = false from decide_eq_false (by simp at hn'; omega)]; rfl)]
    simp
  | cons x X2 ih =>
    intro Y2 X1 Y1 h2 h1 hn'
    cases Y2 with
    | nil => cases h2
    | cons y Y2 =>
      simp only [List.length_cons, Nat.add_right_cancel_iff] at h2
      simp only [List.length_cons] at hn'
      have hl : P ++ (Y1 ++ (x :: X2 ++ (M ++ (X1 ++ (y :: Y2 ++ S))))) = (P ++ Y1) ++ x :: ((X2 ++ M ++ X1) ++ y :: (Y2 ++ S)) := by simp
      have ei : IntKind.wrap .i64 ((a : Int) + ((X1.length : Nat) : Int)) = ((P ++ Y1).length : Int) := by rw [wrap64 (by omega) (by omega), List.length_append]; omega
      have ej : IntKind.wrap .i64 ((b : Int) + ((X1.length : Nat) : Int)) = (((P ++ Y1).length + 1 + (X2 ++ M ++ X1).length : Nat) : Int) := by rw [wrap64 (by omega) (by omega)]; simp only [List.length_append]; omega
      obtain ⟨e1, e2, e3, e4⟩ := ex_up hl ei ej
      rw [loopO_step (s' := (P ++ ((Y1 ++ [y]) ++ (X2 ++ (M ++ ((X1 ++ [x]) ++ (Y2 ++ S))))), ((X1 ++ [x]).length : Int))) (by
        unfold gswapRange_l25
        rw [show decide (((X1.length : Nat) : Int) < (n : Int)) = true from decide_eq_true (by omega)]
        simp only [cond_true, e1, e2, Option.bind_some, e3, e4, wrap_up (show X1.length < 4294967296 by omega)]
        simp)]
      rw [ih Y2 (X1 ++ [x]) (Y1 ++ [y]) h2 (by simp; omega) (by simp; omega)]
      simp
theorem gswapRange_eq {l P X M Y S : List α} {a b n : Int} (hl : l = P ++ (X ++ (M ++ (Y ++ S)))) (hXY : X.length = Y.length) (hlen : l.length < 2147483648) (ha : a = (P.length : Int)) (hb : b = ((P.length + X.length + M.length : Nat) : Int)) (hn : n = (X.length : Int)) :
    gswapRange cf l a b n = some (P ++ (Y ++ (M ++ (X ++ S)))) := by
  subst hl ha hb hn
  simp only [List.length_append] at hlen
  unfold gswapRange
  have := gswapRange_loop (cf := cf) P M S P.length (P.length + X.length + M.length) X.length rfl rfl (by omega) X Y [] [] hXY rfl (by simp)
  simp only [List.nil_append, List.length_nil] at this
  rw [show ((0 : Nat) : Int) = 0 from rfl] at this
  rw [this]; rfl
theorem grotate_loop (n : Nat) : ∀ (P X Y S : List α) (m : Int), X.length + Y.length ≤ n → 0 < X.length → 0 < Y.length → P.length + X.length + Y.length + S.length < 2147483648 → m = ((P.length + X.length : Nat) : Int) →
    ∃ P' U V S', loopO (grotate_l25 cf m) (P ++ (X ++ (Y ++ S)), (X.length : Int), (Y.length : Int)) = some (P' ++ (U ++ (V ++ S')), (U.length : Int)) ∧ U.length = V.length ∧ 0 < U.length ∧ m = ((P'.length + U.length : Nat) : Int) ∧ P'.length + U.length + V.length + S'.length < 2147483648 ∧
      P' ++ (V ++ (U ++ S')) = P ++ (Y ++ (X ++ S)) := by
  induction n with
  | zero => intro P X Y S m hn hx hy; omega
  | succ n ih =>
    intro P X Y S m hn hx hy hlen hm
    by_cases hij : X.length = Y.length
    · refine ⟨P, X, Y, S, loopO_done (by
        unfold grotate_l25
        rw [show (((X.length : Nat) : Int) != ((Y.length : Nat) : Int)) = false by rw [hij]; simp]; rfl), hij, hx, hm, hlen, rfl⟩
    · have hne : (((X.length : Nat) : Int) != ((Y.length : Nat) : Int)) = true := by simp; omega
      by_cases hgt : X.length > Y.length
      · -- X = A ++ Z with |A| = |Y|
        obtain ⟨A, Z, rfl, hA⟩ : ∃ A Z, X = A ++ Z ∧ A.length = Y.length := ⟨X.take Y.length, X.drop Y.length, (List.take_append_drop _ _).symm, by rw [List.length_take]; omega⟩
        have hAZ : (A ++ Z).length = A.length + Z.length := List.length_append
        simp only [List.length_append] at hn hx hlen hm hgt hij hne
        have hs := gswapRange_eq (cf := cf) (l := P ++ ((A ++ Z) ++ (Y ++ S))) (P := P) (X := A) (M := Z) (Y := Y) (S := S) (a := IntKind.wrap .i64 (m - ((A ++ Z).length : Int))) (b := m) (n := (Y.length : Int)) (by simp) hA (by simp; omega)
          (by rw [hm, wrap64 (by omega) (by omega)]; omega) (by rw [hm]; omega) (by rw [hA])
        have hstep : loopO (grotate_l25 cf m) (P ++ ((A ++ Z) ++ (Y ++ S)), ((A ++ Z).length : Int), (Y.length : Int)) = loopO (grotate_l25 cf m) ((P ++ Y) ++ (Z ++ (A ++ S)), (Z.length : Int), (A.length : Int)) := by
          refine loopO_step ?_
          unfold grotate_l25
          simp only [List.length_append] at hs ⊢
          rw [hne]
          simp only [cond_true]
          rw [show decide (((A.length + Z.length : Nat) : Int) > ((Y.length : Nat) : Int)) = true from decide_eq_true (by omega)]
          simp only [cond_true, hs, Option.bind_some]
          rw [wrap64 (by omega) (by omega)]
          simp; omega
        obtain ⟨P', U, V, S', h1, h2, h3, h4, h5, h6⟩ := ih (P ++ Y) Z A S m (by omega) (by omega) (by omega) (by simp; omega) (by rw [hm]; simp; omega)
        exact ⟨P', U, V, S', hstep.trans h1, h2, h3, h4, h5, by rw [h6]; simp⟩
      · obtain ⟨Z, B, rfl, hB⟩ : ∃ Z B, Y = Z ++ B ∧ B.length = X.length := ⟨Y.take (Y.length - X.length), Y.drop (Y.length - X.length), (List.take_append_drop _ _).symm, by rw [List.length_drop]; omega⟩
        simp only [List.length_append] at hn hy hlen hgt hij hne
        have hs := gswapRange_eq (cf := cf) (l := P ++ (X ++ ((Z ++ B) ++ S))) (P := P) (X := X) (M := Z) (Y := B) (S := S) (a := IntKind.wrap .i64 (m - (X.length : Int))) (b := IntKind.wrap .i64 (IntKind.wrap .i64 (m + ((Z ++ B).length : Int)) - (X.length : Int))) (n := (X.length : Int)) (by simp) hB.symm (by simp; omega)
          (by rw [hm, wrap64 (by omega) (by omega)]; omega) (by rw [hm, wrap64 (x := _ + _) (by simp; omega) (by simp; omega), wrap64 (by simp; omega) (by simp; omega)]; simp; omega) rfl
        have hstep : loopO (grotate_l25 cf m) (P ++ (X ++ ((Z ++ B) ++ S)), (X.length : Int), ((Z ++ B).length : Int)) = loopO (grotate_l25 cf m) (P ++ (B ++ (Z ++ (X ++ S))), (B.length : Int), (Z.length : Int)) := by
          refine loopO_step ?_
          unfold grotate_l25
          simp only [List.length_append] at hs ⊢
          rw [hne]
          simp only [cond_true]
          rw [show decide (((X.length : Nat) : Int) > ((Z.length + B.length : Nat) : Int)) = false from decide_eq_false (by omega)]
          simp only [cond_false, hs, Option.bind_some]
          rw [wrap64 (by omega) (by omega)]
          simp only [hB]
          rw [show ((Z.length + X.length : Nat) : Int) - (X.length : Int) = (Z.length : Int) from by omega]
        obtain ⟨P', U, V, S', h1, h2, h3, h4, h5, h6⟩ := ih P B Z (X ++ S) m (by omega) (by omega) (by omega) (by simp; omega) (by rw [hm]; omega)
        exact ⟨P', U, V, S', hstep.trans h1, h2, h3, h4, h5, by rw [h6]; simp⟩
theorem grotate_eq {l P X Y S : List α} {a m b : Int} (hl : l = P ++ (X ++ (Y ++ S))) (hx : 0 < X.length) (hy : 0 < Y.length) (hlen : l.length < 2147483648) (ha : a = (P.length : Int)) (hm : m = ((P.length + X.length : Nat) : Int)) (hb : b = ((P.length + X.length + Y.length : Nat) : Int)) :
    grotate cf l a m b = some (P ++ (Y ++ (X ++ S))) := by
  subst hl
  simp only [List.length_append] at hlen
  obtain ⟨P', U, V, S', h1, h2, h3, h4, h5, h6⟩ := grotate_loop (cf := cf) (X.length + Y.length) P X Y S m (Nat.le_refl _) hx hy (by omega) hm
  unfold grotate
  rw [show IntKind.wrap .i64 (m - a) = (X.length : Int) by rw [hm, ha, wrap64 (by omega) (by omega)]; omega, show IntKind.wrap .i64 (b - m) = (Y.length : Int) by rw [hm, hb, wrap64 (by omega) (by omega)]; omega, h1]
  simp only [Option.bind_some]
  rw [gswapRange_eq (cf := cf) (P := P') (X := U) (M := []) (Y := V) (S := S') (by simp) h2 (by simp; omega) (by rw [h4, wrap64 (by omega) (by omega)]; omega) (by rw [h4]; simp) rfl]
  simp only [List.nil_append, Option.bind_some]
  rw [h6]
/-- A search by halves. -/
theorem mid_eq {i j : Nat} (h : i + j < 4294967296) : IntKind.wrap .i64 (shr .u64 (IntKind.wrap .u64 (IntKind.wrap .i64 ((i : Int) + (j : Int)))) 1) = (((i + j) / 2 : Nat) : Int) := by
  rw [wrap64 (x := (i : Int) + (j : Int)) (by omega) (by omega), wrapU64 (by omega) (by omega)]
  have := shr_nat .u64 (i + j) 1 (by decide)
  rw [show ((i + j : Nat) : Int) = (i : Int) + (j : Int) from by omega, show ((1 : Nat) : Int) = 1 from rfl] at this
  rw [this, wrap64 (by omega) (by omega)]
theorem bs_spec {body : Int × Int → Option ((Int × Int) ⊕ Int)} (lo hi : Nat) (q : Nat → Bool)
    (h : ∀ i j : Nat, lo ≤ i → i < j → j ≤ hi → body ((i : Int), (j : Int)) = some (.inl (bif q ((i + j) / 2) then ((((i + j) / 2 + 1 : Nat) : Int), (j : Int)) else ((i : Int), (((i + j) / 2 : Nat) : Int)))))
    (he : ∀ i : Nat, body ((i : Int), (i : Int)) = some (.inr (i : Int))) :
    ∀ (n i j : Nat), j - i ≤ n → lo ≤ i → i ≤ j → j ≤ hi → (lo < i → q (i - 1) = true) → (j < hi → q j = false) →
      ∃ st : Nat, loopO body ((i : Int), (j : Int)) = some (st : Int) ∧ lo ≤ st ∧ st ≤ hi ∧ (lo < st → q (st - 1) = true) ∧ (st < hi → q st = false) := by
  intro n
  induction n with
  | zero =>
    intro i j hn h1 h2 h3 h4 h5
    obtain rfl : i = j := by omega
    exact ⟨i, loopO_done (he i), h1, h3, h4, h5⟩
  | succ n ih =>
    intro i j hn h1 h2 h3 h4 h5
    by_cases hij : i = j
    · subst hij; exact ⟨i, loopO_done (he i), h1, h3, h4, h5⟩
    · have hstep := h i j h1 (by omega) h3
      cases hq : q ((i + j) / 2) with
      | true =>
        rw [hq] at hstep
        obtain ⟨st, e, r⟩ := ih ((i + j) / 2 + 1) j (by omega) (by omega) (by omega) h3 (fun _ => by rw [Nat.add_sub_cancel]; exact hq) h5
        exact ⟨st, (loopO_step hstep).trans e, r⟩
      | false =>
        rw [hq] at hstep
        obtain ⟨st, e, r⟩ := ih i ((i + j) / 2) (by omega) h1 (by omega) (by omega) h4 (fun _ => hq)
        exact ⟨st, (loopO_step hstep).trans e, r⟩
end
end Go.GB

/- Stable sorting: the library's insertion sort and merge. -/
set_option linter.unusedVariables false
set_option linter.unusedSimpArgs false
namespace Go.GB
section
variable {α : Type} {lt : α → α → Bool}
theorem Sorted.last {A : List α} {z : α} (h : Sorted lt (A ++ [z])) : ∀ a ∈ A, lt z a = false := fun a ha => (List.pairwise_append.1 h).2.2 a ha z (by simp)
theorem Sorted.head {B : List α} {y : α} (h : Sorted lt (y :: B)) : ∀ b ∈ B, lt b y = false := (List.pairwise_cons.1 h).1
theorem Sorted.left {A B : List α} (h : Sorted lt (A ++ B)) : Sorted lt A := (List.pairwise_append.1 h).1
theorem Sorted.right {A B : List α} (h : Sorted lt (A ++ B)) : Sorted lt B := (List.pairwise_append.1 h).2.1
theorem Sorted.cross {A B : List α} (h : Sorted lt (A ++ B)) : ∀ a ∈ A, ∀ b ∈ B, lt b a = false := (List.pairwise_append.1 h).2.2
theorem Sorted.append {A B : List α} (h : Sorted lt A) (h' : Sorted lt B) (hc : ∀ a ∈ A, ∀ b ∈ B, lt b a = false) : Sorted lt (A ++ B) := List.pairwise_append.2 ⟨h, h', hc⟩
theorem StS.self {A : List α} (h : Sorted lt A) : StS lt A A := ⟨FE.refl A, h⟩
/-- One more element, put in its place. -/
theorem ins_sts (hs : Swo lt) {X0 U V : List α} {y : α} (h : StS lt X0 (U ++ V)) (h2 : ∀ v ∈ V, lt y v = true) (h3 : U = [] ∨ ∃ U' z, U = U' ++ [z] ∧ lt y z = false) : StS lt (X0 ++ [y]) (U ++ (y :: V)) := by
  refine ⟨?_, ?_⟩
  · have e1 : FE lt (U ++ ([y] ++ V) ++ []) (U ++ (V ++ [y]) ++ []) := FE.mid (FE.swap hs (fun x hx z hz => by rw [List.mem_singleton.1 hz]; exact h2 x hx)).symm
    have e2 : FE lt ((U ++ V) ++ [y]) (X0 ++ [y]) := h.1.append (FE.refl _)
    have := e1.trans (by simpa using e2)
    simpa using this
  · have hUV := h.2
    refine Sorted.append hUV.left (List.pairwise_cons.2 ⟨fun v hv => hs.asymm y v (h2 v hv), hUV.right⟩) fun u hu w hw => ?_
    rcases List.mem_cons.1 hw with rfl | hw
    · rcases h3 with rfl | ⟨U', z, rfl, hz⟩
      · cases hu
      · rcases List.mem_append.1 hu with hu | hu
        · exact hs.trans u z w (hUV.left.last u hu) hz
        · rw [List.mem_singleton.1 hu]; exact hz
    · exact hUV.cross u hu w hw
/-- Two sorted lists, each cut in two, and what comes of the parts. -/
theorem merge4 (hs : Swo lt) {X1 X2 Y1 Y2 Z1 Z2 : List α} (hX : Sorted lt (X1 ++ X2)) (hY : Sorted lt (Y1 ++ Y2)) (c1 : ∀ x ∈ X1, ∀ y ∈ Y2, lt y x = false) (c2 : ∀ x ∈ X2, ∀ y ∈ Y1, lt y x = true)
    (h1 : StS lt (X1 ++ Y1) Z1) (h2 : StS lt (X2 ++ Y2) Z2) : StS lt ((X1 ++ X2) ++ (Y1 ++ Y2)) (Z1 ++ Z2) := by
  refine ⟨?_, h1.2.append h2.2 fun a ha b hb => ?_⟩
  · refine (h1.1.append h2.1).trans ?_
    have e : FE lt (X1 ++ (Y1 ++ X2) ++ Y2) (X1 ++ (X2 ++ Y1) ++ Y2) := FE.mid (FE.swap hs c2).symm
    simpa using e
  · have ha' := h1.1.mem hs ha
    have hb' := h2.1.mem hs hb
    rcases List.mem_append.1 ha' with ha' | ha' <;> rcases List.mem_append.1 hb' with hb' | hb'
    · exact hX.cross a ha' b hb'
    · exact c1 a ha' b hb'
    · exact hs.asymm a b (c2 b hb' a ha')
    · exact hY.cross a ha' b hb'
end
section
variable {α : Type} {cf : α → α → Int}
def ltc (cf : α → α → Int) (x y : α) : Bool := decide (cf x y < 0)
/-- One element goes down to its place. -/
theorem gins_inner (hs : Swo (ltc cf)) (P R : List α) (y : α) (a : Int) (ha : a = (P.length : Int)) (n : Nat) : ∀ (X : List α) (W : List α), X.length = n → P.length + X.length < 2147483648 →
    ∃ U V, X = U ++ V ∧ loopO (ginsertionSort_l52 cf a) (P ++ (X ++ (y :: (W ++ R))), ((P.length + X.length : Nat) : Int)) = some (P ++ (U ++ (y :: (V ++ (W ++ R))))) ∧ (∀ v ∈ V, ltc cf y v = true) ∧ (U = [] ∨ ∃ U' z, U = U' ++ [z] ∧ ltc cf y z = false) := by
  induction n with
  | zero =>
    intro X W hn hl
    have : X = [] := List.length_eq_zero_iff.1 hn
    subst this
    refine ⟨[], [], rfl, loopO_done ?_, (fun v hv => by cases hv), .inl rfl⟩
    unfold ginsertionSort_l52
    rw [show decide (((P.length + ([] : List α).length : Nat) : Int) > a) = false from decide_eq_false (by simp; omega)]
    simp
  | succ n ih =>
    intro X W hn hl
    obtain ⟨X', z, rfl⟩ : ∃ X' z, X = X' ++ [z] := ⟨X.dropLast, X.getLast (by intro e; rw [e] at hn; cases hn), (List.dropLast_concat_getLast _).symm⟩
    simp only [List.length_append, List.length_cons, List.length_nil] at hn hl
    have hl0 : P ++ ((X' ++ [z]) ++ (y :: (W ++ R))) = (P ++ X') ++ z :: ([] ++ y :: (W ++ R)) := by simp
    have ej : ((P.length + (X' ++ [z]).length : Nat) : Int) = (((P ++ X').length + 1 + ([] : List α).length : Nat) : Int) := by simp; omega
    have ei : IntKind.wrap .i64 (((P.length + (X' ++ [z]).length : Nat) : Int) - 1) = ((P ++ X').length : Int) := by
      simp only [List.length_append, List.length_cons, List.length_nil]; rw [wrap64 (by omega) (by omega)]; omega
    obtain ⟨e1, e2, e3, e4⟩ := ex_down hl0 ei ej
    rw [ei] at e1 e3 e4
    have hgt : decide (((P.length + (X' ++ [z]).length : Nat) : Int) > a) = true := decide_eq_true (by simp; omega)
    cases hlt : ltc cf y z with
    | false =>
      refine ⟨X' ++ [z], [], by simp, loopO_done ?_, fun v hv => (by cases hv), .inr ⟨X', z, rfl, hlt⟩⟩
      unfold ginsertionSort_l52
      unfold ltc at hlt
      simp only [hgt, cond_true, ei, e1, e2, Option.bind_some, hlt, cond_false, List.nil_append]
    | true =>
      obtain ⟨U, V, rfl, h1, h2, h3⟩ := ih X' (z :: W) (by omega) (by omega)
      refine ⟨U, V ++ [z], by simp, ?_, fun v hv => ?_, h3⟩
      · rw [loopO_step (s' := (P ++ ((U ++ V) ++ (y :: ((z :: W) ++ R))), ((P.length + (U ++ V).length : Nat) : Int))) (by
          unfold ginsertionSort_l52
          unfold ltc at hlt
          simp only [hgt, cond_true, ei, e1, e2, Option.bind_some, hlt, e3, e4]
          simp), h1]
        simp
      · rcases List.mem_append.1 hv with hv | hv
        · exact h2 v hv
        · rw [List.mem_singleton.1 hv]; exact hlt
theorem gins_outer (hs : Swo (ltc cf)) (P S : List α) (a b : Int) (ha : a = (P.length : Int)) : ∀ (Y X0 X1 : List α), StS (ltc cf) X0 X1 → b = ((P.length + X1.length + Y.length : Nat) : Int) → P.length + X1.length + Y.length < 2147483648 →
    ∃ Z, loopO (ginsertionSort_l25 cf a b) (P ++ (X1 ++ (Y ++ S)), ((P.length + X1.length : Nat) : Int)) = some (P ++ (Z ++ S)) ∧ StS (ltc cf) (X0 ++ Y) Z := by
  intro Y
  induction Y with
  | nil =>
    intro X0 X1 h hb hl
    refine ⟨X1, loopO_done ?_, by simpa using h⟩
    unfold ginsertionSort_l25
    rw [show decide (((P.length + X1.length : Nat) : Int) < b) = false from decide_eq_false (by rw [hb]; simp)]
    simp
  | cons y Y ih =>
    intro X0 X1 h hb hl
    simp only [List.length_cons] at hb hl
    obtain ⟨U, V, rfl, h1, h2, h3⟩ := gins_inner hs P (Y ++ S) y a ha X1.length X1 [] rfl (by omega)
    simp only [List.nil_append] at h1
    have hst : StS (ltc cf) (X0 ++ [y]) (U ++ (y :: V)) := ins_sts hs h h2 h3
    obtain ⟨Z, hz, hZ⟩ := ih (X0 ++ [y]) (U ++ (y :: V)) hst (by rw [hb]; simp; omega) (by simp at hl ⊢; omega)
    refine ⟨Z, ?_, by simpa using hZ⟩
    rw [loopO_step (s' := (P ++ ((U ++ (y :: V)) ++ (Y ++ S)), ((P.length + (U ++ (y :: V)).length : Nat) : Int))) (by
      unfold ginsertionSort_l25
      rw [show decide (((P.length + (U ++ V).length : Nat) : Int) < b) = true from decide_eq_true (by rw [hb]; omega)]
      simp only [cond_true]
      rw [show P ++ ((U ++ V) ++ (y :: Y ++ S)) = P ++ ((U ++ V) ++ (y :: (Y ++ S))) from by simp, h1]
      simp only [Option.bind_some]
      rw [wrap_up (by omega)]
      simp; omega)]
    exact hz
theorem gins_eq (hs : Swo (ltc cf)) {l P X S : List α} {a b : Int} (hl : l = P ++ (X ++ S)) (hlen : l.length < 2147483648) (ha : a = (P.length : Int)) (hb : b = ((P.length + X.length : Nat) : Int)) : ∃ Z, ginsertionSort cf l a b = some (P ++ (Z ++ S)) ∧ StS (ltc cf) X Z := by
  subst hl
  simp only [List.length_append] at hlen
  unfold ginsertionSort
  cases X with
  | nil =>
    refine ⟨[], ?_, StS.self List.Pairwise.nil⟩
    rw [loopO_done (r := P ++ ([] ++ S)) (by
      unfold ginsertionSort_l25
      rw [ha, wrap_up (by omega), show decide (((P.length + 1 : Nat) : Int) < b) = false from decide_eq_false (by rw [hb]; simp; omega)]; rfl)]
    rfl
  | cons x X =>
    simp only [List.length_cons] at hlen hb
    obtain ⟨Z, h1, h2⟩ := gins_outer (cf := cf) hs P S a b ha X [x] [x] (StS.self (List.pairwise_singleton _ _)) (by rw [hb]; simp; omega) (by simp; omega)
    refine ⟨Z, ?_, h2⟩
    rw [ha, wrap_up (by omega)]
    simp only [List.length_cons, List.length_nil, Nat.zero_add] at h1
    rw [← ha, show P ++ (x :: X ++ S) = P ++ ([x] ++ (X ++ S)) from rfl, h1]
    rfl
/-- One element goes to the right, to the left. -/
theorem gsym_right (P R : List α) (x : α) (r : Int) : ∀ (Y2 Y1 : List α), r = ((P.length + Y1.length + Y2.length + 1 : Nat) : Int) → P.length + Y1.length + Y2.length < 2147483648 →
    loopO (gsymMerge_l68 cf r) (P ++ (Y1 ++ (x :: (Y2 ++ R))), ((P.length + Y1.length : Nat) : Int)) = some (P ++ (Y1 ++ (Y2 ++ (x :: R)))) := by
  intro Y2
  induction Y2 with
  | nil =>
    intro Y1 hr hl
    refine loopO_done ?_
    unfold gsymMerge_l68
    rw [show decide (((P.length + Y1.length : Nat) : Int) < IntKind.wrap .i64 (r - 1)) = false from decide_eq_false (by rw [hr, wrap64 (by omega) (by omega)]; simp)]
    rfl
  | cons y Y2 ih =>
    intro Y1 hr hl
    simp only [List.length_cons] at hr hl
    have hl0 : P ++ (Y1 ++ (x :: (y :: Y2 ++ R))) = (P ++ Y1) ++ x :: ([] ++ y :: (Y2 ++ R)) := by simp
    have ei : ((P.length + Y1.length : Nat) : Int) = ((P ++ Y1).length : Int) := by simp
    have ej : IntKind.wrap .i64 (((P.length + Y1.length : Nat) : Int) + 1) = (((P ++ Y1).length + 1 + ([] : List α).length : Nat) : Int) := by rw [wrap_up (by omega)]; simp
    obtain ⟨e1, e2, e3, e4⟩ := ex_up hl0 ei ej
    rw [ej] at e2 e3 e4
    rw [loopO_step (s' := (P ++ ((Y1 ++ [y]) ++ (x :: (Y2 ++ R))), ((P.length + (Y1 ++ [y]).length : Nat) : Int))) (by
      unfold gsymMerge_l68
      rw [show decide (((P.length + Y1.length : Nat) : Int) < IntKind.wrap .i64 (r - 1)) = true from decide_eq_true (by rw [hr, wrap64 (by omega) (by omega)]; omega)]
      simp only [cond_true, ej, e1, e2, Option.bind_some, e3, e4]
      simp; omega), ih (Y1 ++ [y]) (by rw [hr]; simp; omega) (by simp; omega)]
    simp
theorem gsym_left (P R : List α) (y : α) (r : Int) (hr : r = (P.length : Int)) (n : Nat) : ∀ (X W : List α), X.length = n → P.length + X.length < 2147483648 →
    loopO (gsymMerge_l180 cf r) (P ++ (X ++ (y :: (W ++ R))), ((P.length + X.length : Nat) : Int)) = some (P ++ (y :: (X ++ (W ++ R)))) := by
  induction n with
  | zero =>
    intro X W hn hl
    have : X = [] := List.length_eq_zero_iff.1 hn
    subst this
    refine loopO_done ?_
    unfold gsymMerge_l180
    rw [show decide (((P.length + ([] : List α).length : Nat) : Int) > r) = false from decide_eq_false (by simp; omega)]
    rfl
  | succ n ih =>
    intro X W hn hl
    obtain ⟨X', z, rfl⟩ : ∃ X' z, X = X' ++ [z] := ⟨X.dropLast, X.getLast (by intro e; rw [e] at hn; cases hn), (List.dropLast_concat_getLast _).symm⟩
    simp only [List.length_append, List.length_cons, List.length_nil] at hn hl
    have hl0 : P ++ ((X' ++ [z]) ++ (y :: (W ++ R))) = (P ++ X') ++ z :: ([] ++ y :: (W ++ R)) := by simp
    have ej : ((P.length + (X' ++ [z]).length : Nat) : Int) = (((P ++ X').length + 1 + ([] : List α).length : Nat) : Int) := by simp; omega
    have ei : IntKind.wrap .i64 (((P.length + (X' ++ [z]).length : Nat) : Int) - 1) = ((P ++ X').length : Int) := by
      simp only [List.length_append, List.length_cons, List.length_nil]; rw [wrap64 (by omega) (by omega)]; omega
    obtain ⟨e1, e2, e3, e4⟩ := ex_down hl0 ei ej
    rw [ei] at e1 e3 e4
    rw [loopO_step (s' := (P ++ (X' ++ (y :: ((z :: W) ++ R))), ((P.length + X'.length : Nat) : Int))) (by
      unfold gsymMerge_l180
      rw [show decide (((P.length + (X' ++ [z]).length : Nat) : Int) > r) = true from decide_eq_true (by simp; omega)]
      simp only [cond_true, ei, e1, e2, Option.bind_some, e3, e4]
      simp), ih X' (z :: W) (by omega) (by omega)]
    simp
end
end Go.GB

/- Stable sorting: the library's merge in place. -/
set_option linter.unusedVariables false
set_option linter.unusedSimpArgs false
namespace Go.GB
section
variable {α : Type} {cf : α → α → Int}
theorem split_at {Y : List α} {k : Nat} (h : k ≤ Y.length) : ∃ Y1 Y2, Y = Y1 ++ Y2 ∧ Y1.length = k := ⟨Y.take k, Y.drop k, (List.take_append_drop _ _).symm, by rw [List.length_take]; omega⟩
theorem snoc_of {Y : List α} (h : 0 < Y.length) : ∃ Y' z, Y = Y' ++ [z] := ⟨Y.dropLast, Y.getLast (by intro e; rw [e] at h; cases h), (List.dropLast_concat_getLast _).symm⟩
theorem cons_of {Y : List α} (h : 0 < Y.length) : ∃ z Y', Y = z :: Y' := by
  cases Y with
  | nil => cases h
  | cons z Y' => exact ⟨z, Y', rfl⟩
noncomputable abbrev symF (cf : α → α → Int) : ((List α × Int × Int × Int) → Option (List α)) → (List α × Int × Int × Int) → Option (List α) :=
  fun rec_ x => gsymMerge_b cf (fun a0 a1 a2 a3 => rec_ (a0, a1, a2, a3)) x.1 x.2.1 x.2.2.1 x.2.2.2
/-- One element ahead of a sorted list. -/
theorem gsym_one (hs : Swo (ltc cf)) (rec_ : List α → Int → Int → Int → Option (List α)) {P Y S : List α} {x : α} (hY : 0 < Y.length) (hSY : Sorted (ltc cf) Y) (hlen : P.length + 1 + Y.length + S.length < 2147483648) :
    ∃ Z, gsymMerge_b cf rec_ (P ++ ([x] ++ (Y ++ S))) ((P.length : Nat) : Int) ((P.length + 1 : Nat) : Int) ((P.length + 1 + Y.length : Nat) : Int) = some (P ++ (Z ++ S)) ∧ StS (ltc cf) ([x] ++ Y) Z := by
  have hx : ix (P ++ ([x] ++ (Y ++ S))) ((P.length : Nat) : Int) = some x := ix_at (A := P) (B := Y ++ S) (by simp) rfl
  obtain ⟨st, h1, h2, h3, h4, h5⟩ := bs_spec (body := gsymMerge_l17 cf (P ++ ([x] ++ (Y ++ S))) ((P.length : Nat) : Int)) (P.length + 1) (P.length + 1 + Y.length) (fun h => match Y[h - (P.length + 1)]? with | some y => ltc cf y x | none => false)
    (fun i j hi hij hj => by
      have hk : (i + j) / 2 - (P.length + 1) < Y.length := by omega
      have hy : ix (P ++ ([x] ++ (Y ++ S))) (((i + j) / 2 : Nat) : Int) = some (Y[(i + j) / 2 - (P.length + 1)]) := by
        rw [ix_nat, List.getElem?_append_right (by omega), List.getElem?_append_right (by simp; omega), List.getElem?_append_left (by simp; omega), ← List.getElem?_eq_getElem]
        congr 1
      unfold gsymMerge_l17
      simp only [mid_eq (show i + j < 4294967296 by omega)]
      rw [show decide ((i : Int) < (j : Int)) = true from decide_eq_true (by omega)]
      simp only [cond_true, hy, hx, Option.bind_some, List.getElem?_eq_getElem hk]
      rw [wrap_up (by omega)]
      unfold ltc
      cases decide (cf Y[(i + j) / 2 - (P.length + 1)] x < 0) <;> rfl)
    (fun i => by unfold gsymMerge_l17; rw [show decide ((i : Int) < (i : Int)) = false from decide_eq_false (by omega)]; rfl)
    (Y.length) (P.length + 1) (P.length + 1 + Y.length) (by omega) (Nat.le_refl _) (by omega) (Nat.le_refl _) (fun h => by omega) (fun h => by omega)
  obtain ⟨Y1, Y2, rfl, hY1⟩ := split_at (Y := Y) (k := st - (P.length + 1)) (by omega)
  have hmv := gsym_right (cf := cf) P (Y2 ++ S) x ((st : Nat) : Int) Y1 [] (by simp; omega) (by simp at hlen ⊢; omega)
  simp only [List.nil_append, List.length_nil, Nat.add_zero] at hmv
  refine ⟨Y1 ++ ([x] ++ Y2), ?_, ?_⟩
  · unfold gsymMerge_b
    rw [show ((IntKind.wrap .i64 (((P.length + 1 : Nat) : Int) - ((P.length : Nat) : Int))) == 1) = true by rw [wrap64 (by omega) (by omega)]; simp; omega]
    simp only [cond_true]
    rw [h1]
    simp only [Option.bind_some]
    rw [show P ++ ([x] ++ ((Y1 ++ Y2) ++ S)) = P ++ (x :: (Y1 ++ (Y2 ++ S))) from by simp, hmv]
    simp
  · have c2 : ∀ y ∈ Y1, ltc cf y x = true := by
      by_cases h0 : Y1.length = 0
      · rw [List.length_eq_zero_iff.1 h0]; intro y hy; cases hy
      · obtain ⟨Y', z, rfl⟩ := snoc_of (Y := Y1) (by omega)
        have hz := h4 (by omega)
        simp only [List.length_append, List.length_cons, List.length_nil] at hY1
        rw [show st - 1 - (P.length + 1) = Y'.length from by omega] at hz
        rw [show ((Y' ++ [z]) ++ Y2)[Y'.length]? = some z from by simp] at hz
        intro y hy
        rcases List.mem_append.1 hy with hy | hy
        · exact hs.le_lt (hSY.left.last y hy) hz
        · rw [List.mem_singleton.1 hy]; exact hz
    have c3 : ∀ y ∈ Y2, ltc cf y x = false := by
      by_cases h0 : Y2.length = 0
      · rw [List.length_eq_zero_iff.1 h0]; intro y hy; cases hy
      · obtain ⟨z, Y', rfl⟩ := cons_of (Y := Y2) (by omega)
        have hz := h5 (by simp; omega)
        rw [show st - (P.length + 1) = Y1.length from by omega] at hz
        rw [show (Y1 ++ z :: Y')[Y1.length]? = some z from by simp] at hz
        intro y hy
        rcases List.mem_cons.1 hy with rfl | hy
        · exact hz
        · exact hs.trans x z y hz (hSY.right.head y hy)
    have := merge4 hs (X1 := []) (X2 := [x]) (Y1 := Y1) (Y2 := Y2) (Z1 := Y1) (Z2 := [x] ++ Y2) (List.pairwise_singleton _ _) hSY (fun x hx => by cases hx) (fun u hu y hy => by rw [List.mem_singleton.1 hu]; exact c2 y hy)
      (StS.self hSY.left) (StS.self (List.pairwise_cons.2 ⟨c3, hSY.right⟩))
    simpa using this
/-- One element behind a sorted list. -/
theorem gsym_end (hs : Swo (ltc cf)) (rec_ : List α → Int → Int → Int → Option (List α)) {P X S : List α} {y : α} (hX : 1 < X.length) (hSX : Sorted (ltc cf) X) (hlen : P.length + X.length + 1 + S.length < 2147483648) :
    ∃ Z, gsymMerge_b cf rec_ (P ++ (X ++ ([y] ++ S))) ((P.length : Nat) : Int) ((P.length + X.length : Nat) : Int) ((P.length + X.length + 1 : Nat) : Int) = some (P ++ (Z ++ S)) ∧ StS (ltc cf) (X ++ [y]) Z := by
  have hy : ix (P ++ (X ++ ([y] ++ S))) ((P.length + X.length : Nat) : Int) = some y := ix_at (A := P ++ X) (B := S) (by simp) (by simp)
  obtain ⟨st, h1, h2, h3, h4, h5⟩ := bs_spec (body := gsymMerge_l129 cf (P ++ (X ++ ([y] ++ S))) ((P.length + X.length : Nat) : Int)) P.length (P.length + X.length) (fun h => match X[h - P.length]? with | some x => !(ltc cf y x) | none => false)
    (fun i j hi hij hj => by
      have hk : (i + j) / 2 - P.length < X.length := by omega
      have hx : ix (P ++ (X ++ ([y] ++ S))) (((i + j) / 2 : Nat) : Int) = some (X[(i + j) / 2 - P.length]) := by
        rw [ix_nat, List.getElem?_append_right (by omega), List.getElem?_append_left (by omega), ← List.getElem?_eq_getElem]
      unfold gsymMerge_l129
      simp only [mid_eq (show i + j < 4294967296 by omega)]
      rw [show decide ((i : Int) < (j : Int)) = true from decide_eq_true (by omega)]
      simp only [cond_true, hy, hx, Option.bind_some, List.getElem?_eq_getElem hk]
      rw [wrap_up (by omega)]
      unfold ltc
      cases decide (cf y X[(i + j) / 2 - P.length] < 0) <;> rfl)
    (fun i => by unfold gsymMerge_l129; rw [show decide ((i : Int) < (i : Int)) = false from decide_eq_false (by omega)]; rfl)
    (X.length) P.length (P.length + X.length) (by omega) (Nat.le_refl _) (by omega) (Nat.le_refl _) (fun h => by omega) (fun h => by omega)
  obtain ⟨X1, X2, rfl, hX1⟩ := split_at (Y := X) (k := st - P.length) (by omega)
  have hlx : (X1 ++ X2).length = X1.length + X2.length := List.length_append
  have hmv := gsym_left (cf := cf) (P ++ X1) S y ((st : Nat) : Int) (by simp; omega) X2.length X2 [] rfl (by simp at hlen ⊢; omega)
  simp only [List.nil_append] at hmv
  refine ⟨X1 ++ ([y] ++ X2), ?_, ?_⟩
  · unfold gsymMerge_b
    rw [show ((IntKind.wrap .i64 (((P.length + (X1 ++ X2).length : Nat) : Int) - ((P.length : Nat) : Int))) == 1) = false by rw [wrap64 (by omega) (by omega)]; simp; omega]
    simp only [cond_false]
    rw [show ((IntKind.wrap .i64 (((P.length + (X1 ++ X2).length + 1 : Nat) : Int) - ((P.length + (X1 ++ X2).length : Nat) : Int))) == 1) = true by rw [wrap64 (by omega) (by omega)]; simp; omega]
    simp only [cond_true]
    rw [h1]
    simp only [Option.bind_some]
    rw [show P ++ ((X1 ++ X2) ++ ([y] ++ S)) = (P ++ X1) ++ (X2 ++ (y :: S)) from by simp, show ((P.length + (X1 ++ X2).length : Nat) : Int) = (((P ++ X1).length + X2.length : Nat) : Int) from by simp; omega, hmv]
    simp
  · have c2 : ∀ x ∈ X2, ltc cf y x = true := by
      by_cases h0 : X2.length = 0
      · rw [List.length_eq_zero_iff.1 h0]; intro x hx; cases hx
      · obtain ⟨z, X', rfl⟩ := cons_of (Y := X2) (by omega)
        have hz := h5 (by simp at hlx ⊢; omega)
        rw [show st - P.length = X1.length from by omega] at hz
        rw [show (X1 ++ z :: X')[X1.length]? = some z from by simp] at hz
        simp only [Bool.not_eq_false'] at hz
        intro x hx
        rcases List.mem_cons.1 hx with rfl | hx
        · exact hz
        · exact hs.lt_le hz (hSX.right.head x hx)
    have c1 : ∀ x ∈ X1, ltc cf y x = false := by
      by_cases h0 : X1.length = 0
      · rw [List.length_eq_zero_iff.1 h0]; intro x hx; cases hx
      · obtain ⟨X', z, rfl⟩ := snoc_of (Y := X1) (by omega)
        have hz := h4 (by omega)
        simp only [List.length_append, List.length_cons, List.length_nil] at hX1
        rw [show st - 1 - P.length = X'.length from by omega] at hz
        rw [show ((X' ++ [z]) ++ X2)[X'.length]? = some z from by simp] at hz
        simp only [Bool.not_eq_true'] at hz
        intro x hx
        rcases List.mem_append.1 hx with hx | hx
        · exact hs.trans x z y (hSX.left.last x hx) hz
        · rw [List.mem_singleton.1 hx]; exact hz
    have := merge4 hs (X1 := X1) (X2 := X2) (Y1 := [y]) (Y2 := []) (Z1 := X1 ++ [y]) (Z2 := X2) hSX (List.pairwise_singleton _ _) (fun x hx z hz => by cases hz) (fun u hu z hz => by rw [List.mem_singleton.1 hz]; exact c2 u hu)
      (StS.self (hSX.left.append (List.pairwise_singleton _ _) (fun x hx z hz => by rw [List.mem_singleton.1 hz]; exact c1 x hx))) (by simpa using StS.self hSX.right)
    simpa using this
set_option maxHeartbeats 2000000 in
/-- Two sorted ranges, one behind the other. -/
theorem gsym_eq (hs : Swo (ltc cf)) (n : Nat) : ∀ (P X Y S : List α), X.length + Y.length ≤ n → 0 < X.length → 0 < Y.length → Sorted (ltc cf) X → Sorted (ltc cf) Y → P.length + X.length + Y.length + S.length < 2147483648 →
    ∃ Z, iterF (symF cf) n (P ++ (X ++ (Y ++ S)), ((P.length : Nat) : Int), ((P.length + X.length : Nat) : Int), ((P.length + X.length + Y.length : Nat) : Int)) = some (P ++ (Z ++ S)) ∧ StS (ltc cf) (X ++ Y) Z := by
  induction n with
  | zero => intro P X Y S hn hX; omega
  | succ n ih =>
    intro P X Y S hn hX hY hSX hSY hlen
    rw [iterF_succ]
    show ∃ Z, gsymMerge_b cf (fun a0 a1 a2 a3 => iterF (symF cf) n (a0, a1, a2, a3)) (P ++ (X ++ (Y ++ S))) ((P.length : Nat) : Int) ((P.length + X.length : Nat) : Int) ((P.length + X.length + Y.length : Nat) : Int) = some (P ++ (Z ++ S)) ∧ _
    by_cases hX1 : X.length = 1
    · obtain ⟨x, X', rfl⟩ := cons_of hX
      have : X' = [] := List.length_eq_zero_iff.1 (by simpa using hX1)
      subst this
      exact gsym_one hs _ hY hSY (by simp at hlen ⊢; omega)
    by_cases hY1 : Y.length = 1
    · obtain ⟨y, Y', rfl⟩ := cons_of hY
      have : Y' = [] := List.length_eq_zero_iff.1 (by simpa using hY1)
      subst this
      exact gsym_end hs _ (by omega) hSX (by simp at hlen ⊢; omega)
    -- the general case
    generalize ha : P.length = a at *
    generalize hm : a + X.length = m at *
    generalize hb : m + Y.length = b at *
    have hmid1 : IntKind.wrap .i64 (shr .u64 (IntKind.wrap .u64 (IntKind.wrap .i64 ((a : Int) + (b : Int)))) 1) = (((a + b) / 2 : Nat) : Int) := mid_eq (by omega)
    generalize hmid : (a + b) / 2 = mid at *
    -- where the search goes
    obtain ⟨lo, hi, hlohi, hlo1, hcases⟩ : ∃ lo hi : Nat, (bif (decide ((m : Int) > (mid : Int))) then some ((IntKind.wrap .i64 ((IntKind.wrap .i64 ((mid : Int) + (m : Int))) - (b : Int))), (mid : Int)) else some ((a : Int), (m : Int)) : Option (Int × Int)) = some ((lo : Int), (hi : Int)) ∧ lo ≤ hi ∧
        ((mid < m ∧ lo + b = mid + m ∧ hi = mid) ∨ (m ≤ mid ∧ lo = a ∧ hi = m)) := by
      by_cases hc : mid < m
      · refine ⟨mid + m - b, mid, ?_, by omega, .inl ⟨hc, by omega, rfl⟩⟩
        rw [show decide ((m : Int) > (mid : Int)) = true from decide_eq_true (by omega)]
        simp only [cond_true]
        rw [wrap64 (x := (mid : Int) + (m : Int)) (by omega) (by omega), wrap64 (by omega) (by omega)]
        congr 2; omega
      · refine ⟨a, m, ?_, by omega, .inr ⟨by omega, rfl, rfl⟩⟩
        rw [show decide ((m : Int) > (mid : Int)) = false from decide_eq_false (by omega)]; rfl
    have hxi : ∀ c : Nat, a ≤ c → (hc : c < m) → ix (P ++ (X ++ (Y ++ S))) (c : Int) = some (X[c - a]'(by omega)) := fun c h1 h2 => by
      rw [ix_nat, List.getElem?_append_right (by omega), ha, List.getElem?_append_left (by omega), ← List.getElem?_eq_getElem]
    have hyi : ∀ c : Nat, m ≤ c → (hc : c < b) → ix (P ++ (X ++ (Y ++ S))) (c : Int) = some (Y[c - m]'(by omega)) := fun c h1 h2 => by
      rw [ix_nat, List.getElem?_append_right (by omega), ha, List.getElem?_append_right (by omega), show c - a - X.length = c - m from by omega, List.getElem?_append_left (by omega), ← List.getElem?_eq_getElem]
    obtain ⟨st, h1, h2, h3, h4, h5⟩ := bs_spec (body := gsymMerge_l246 cf (P ++ (X ++ (Y ++ S))) (a : Int) (m : Int) (b : Int)) lo hi (fun c => match X[c - a]?, Y[mid + m - 1 - c - m]? with | some x, some y => !(ltc cf y x) | _, _ => false)
      (fun i j hi' hij hj => by
        have hk1 : (i + j) / 2 - a < X.length := by omega
        have hk2 : mid + m - 1 - (i + j) / 2 - m < Y.length := by omega
        have hx := hxi ((i + j) / 2) (by omega) (by omega)
        have hy := hyi (mid + m - 1 - (i + j) / 2) (by omega) (by omega)
        unfold gsymMerge_l246
        simp only [mid_eq (show i + j < 4294967296 by omega), hmid1]
        rw [show decide ((i : Int) < (j : Int)) = true from decide_eq_true (by omega)]
        rw [show IntKind.wrap .i64 (IntKind.wrap .i64 (IntKind.wrap .i64 ((mid : Int) + (m : Int)) - 1) - (((i + j) / 2 : Nat) : Int)) = ((mid + m - 1 - (i + j) / 2 : Nat) : Int) by
          rw [wrap64 (x := (mid : Int) + (m : Int)) (by omega) (by omega), wrap64 (x := _ - 1) (by omega) (by omega), wrap64 (by omega) (by omega)]; omega]
        simp only [cond_true, hy, hx, Option.bind_some, List.getElem?_eq_getElem hk1, List.getElem?_eq_getElem hk2]
        rw [wrap_up (by omega)]
        unfold ltc
        cases decide (cf Y[mid + m - 1 - (i + j) / 2 - m] X[(i + j) / 2 - a] < 0) <;> rfl)
      (fun i => by unfold gsymMerge_l246; rw [show decide ((i : Int) < (i : Int)) = false from decide_eq_false (by omega)]; rfl)
      (hi - lo) lo hi (Nat.le_refl _) (Nat.le_refl _) hlo1 (Nat.le_refl _) (fun h => by omega) (fun h => by omega)
    obtain ⟨X1, X2, rfl, hx1⟩ := split_at (Y := X) (k := st - a) (by omega)
    obtain ⟨Y1, Y2, rfl, hy1⟩ := split_at (Y := Y) (k := mid - st) (by omega)
    have hlx : (X1 ++ X2).length = X1.length + X2.length := List.length_append
    have hly : (Y1 ++ Y2).length = Y1.length + Y2.length := List.length_append
    -- what the search tells
    have c1 : ∀ x ∈ X1, ∀ y ∈ Y2, ltc cf y x = false := by
      intro x hx y hy
      have hX1p : 0 < X1.length := List.length_pos_of_mem hx
      have hY2p : 0 < Y2.length := List.length_pos_of_mem hy
      obtain ⟨X', z, rfl⟩ := snoc_of hX1p
      obtain ⟨w, Y', rfl⟩ := cons_of hY2p
      have e1 : (X' ++ [z]).length = X'.length + 1 := by simp
      have e2 : (w :: Y').length = Y'.length + 1 := by simp
      have hz := h4 (by omega)
      rw [show st - 1 - a = X'.length from by omega, show mid + m - 1 - (st - 1) - m = Y1.length from by omega] at hz
      rw [show ((X' ++ [z]) ++ X2)[X'.length]? = some z from by simp, show (Y1 ++ w :: Y')[Y1.length]? = some w from by simp] at hz
      simp only [Bool.not_eq_true'] at hz
      have hxz : ltc cf z x = false := by
        rcases List.mem_append.1 hx with hx | hx
        · exact hSX.left.last x hx
        · rw [List.mem_singleton.1 hx]; exact hs.irrefl _
      have hwy : ltc cf y w = false := by
        rcases List.mem_cons.1 hy with rfl | hy
        · exact hs.irrefl _
        · exact hSY.right.head y hy
      exact hs.trans x z y hxz (hs.trans z w y hz hwy)
    have c2 : ∀ x ∈ X2, ∀ y ∈ Y1, ltc cf y x = true := by
      intro x hx y hy
      have hX2p : 0 < X2.length := List.length_pos_of_mem hx
      have hY1p : 0 < Y1.length := List.length_pos_of_mem hy
      obtain ⟨z, X', rfl⟩ := cons_of hX2p
      obtain ⟨Y', w, rfl⟩ := snoc_of hY1p
      have e1 : (Y' ++ [w]).length = Y'.length + 1 := by simp
      have e2 : (z :: X').length = X'.length + 1 := by simp
      have hz := h5 (by omega)
      rw [show st - a = X1.length from by omega, show mid + m - 1 - st - m = Y'.length from by omega] at hz
      rw [show (X1 ++ z :: X')[X1.length]? = some z from by simp, show ((Y' ++ [w]) ++ Y2)[Y'.length]? = some w from by simp] at hz
      simp only [Bool.not_eq_false'] at hz
      have hyw : ltc cf w y = false := by
        rcases List.mem_append.1 hy with hy | hy
        · exact hSY.left.last y hy
        · rw [List.mem_singleton.1 hy]; exact hs.irrefl _
      have hzx : ltc cf x z = false := by
        rcases List.mem_cons.1 hx with rfl | hx
        · exact hs.irrefl _
        · exact hSX.right.head x hx
      exact hs.le_lt hyw (hs.lt_le hz hzx)
    -- the steps
    have hend : IntKind.wrap .i64 (IntKind.wrap .i64 ((mid : Int) + (m : Int)) - (st : Int)) = ((mid + m - st : Nat) : Int) := by
      rw [wrap64 (x := (mid : Int) + (m : Int)) (by omega) (by omega), wrap64 (by omega) (by omega)]; omega
    have hrot : (bif ((decide ((st : Int) < (m : Int))) && (decide ((m : Int) < ((mid + m - st : Nat) : Int)))) then (Option.bind (grotate cf (P ++ ((X1 ++ X2) ++ ((Y1 ++ Y2) ++ S))) (st : Int) (m : Int) ((mid + m - st : Nat) : Int)) fun (y288 : List α) => some y288) else some (P ++ ((X1 ++ X2) ++ ((Y1 ++ Y2) ++ S)))) = some (P ++ (X1 ++ (Y1 ++ (X2 ++ (Y2 ++ S))))) := by
      by_cases hc : 0 < X2.length ∧ 0 < Y1.length
      · rw [show (decide ((st : Int) < (m : Int)) && decide ((m : Int) < ((mid + m - st : Nat) : Int))) = true by rw [Bool.and_eq_true, decide_eq_true_iff, decide_eq_true_iff]; omega]
        rw [grotate_eq (cf := cf) (P := P ++ X1) (X := X2) (Y := Y1) (S := Y2 ++ S) (by simp) hc.1 hc.2 (by simp only [List.length_append]; omega) (by simp; omega) (by simp; omega) (by simp; omega)]
        simp
      · rw [show (decide ((st : Int) < (m : Int)) && decide ((m : Int) < ((mid + m - st : Nat) : Int))) = false by rw [Bool.and_eq_false_iff, decide_eq_false_iff_not, decide_eq_false_iff_not]; omega]
        rcases Nat.eq_zero_or_pos X2.length with h0 | h0
        · rw [List.length_eq_zero_iff.1 h0]; simp
        · rw [List.length_eq_zero_iff.1 (show Y1.length = 0 by omega)]; simp
    obtain ⟨Z1, hr1, hZ1⟩ : ∃ Z1, (bif ((decide ((a : Int) < (st : Int))) && (decide ((st : Int) < (mid : Int)))) then (Option.bind (iterF (symF cf) n (P ++ (X1 ++ (Y1 ++ (X2 ++ (Y2 ++ S)))), (a : Int), (st : Int), (mid : Int))) fun (y311 : List α) => some y311) else some (P ++ (X1 ++ (Y1 ++ (X2 ++ (Y2 ++ S)))))) = some (P ++ (Z1 ++ (X2 ++ (Y2 ++ S)))) ∧ StS (ltc cf) (X1 ++ Y1) Z1 := by
      by_cases hc : 0 < X1.length ∧ 0 < Y1.length
      · obtain ⟨Z1, e, hz⟩ := ih P X1 Y1 (X2 ++ (Y2 ++ S)) (by omega) hc.1 hc.2 hSX.left hSY.left (by simp only [List.length_append]; omega)
        refine ⟨Z1, ?_, hz⟩
        rw [show (decide ((a : Int) < (st : Int)) && decide ((st : Int) < (mid : Int))) = true by rw [Bool.and_eq_true, decide_eq_true_iff, decide_eq_true_iff]; omega]
        rw [ha, show a + X1.length = st from by omega, show st + Y1.length = mid from by omega] at e
        rw [e]; rfl
      · refine ⟨X1 ++ Y1, ?_, StS.self ?_⟩
        · rw [show (decide ((a : Int) < (st : Int)) && decide ((st : Int) < (mid : Int))) = false by rw [Bool.and_eq_false_iff, decide_eq_false_iff_not, decide_eq_false_iff_not]; omega]
          simp
        · rcases Nat.eq_zero_or_pos X1.length with h0 | h0
          · rw [List.length_eq_zero_iff.1 h0]; simpa using hSY.left
          · rw [List.length_eq_zero_iff.1 (show Y1.length = 0 by omega)]; simpa using hSX.left
    have hlZ1 : Z1.length = X1.length + Y1.length := FE.length hs _ (by simp) hZ1.1.symm
    obtain ⟨Z2, hr2, hZ2⟩ : ∃ Z2, (bif ((decide ((mid : Int) < ((mid + m - st : Nat) : Int))) && (decide (((mid + m - st : Nat) : Int) < (b : Int)))) then (Option.bind (iterF (symF cf) n (P ++ (Z1 ++ (X2 ++ (Y2 ++ S))), (mid : Int), ((mid + m - st : Nat) : Int), (b : Int))) fun (y334 : List α) => some y334) else some (P ++ (Z1 ++ (X2 ++ (Y2 ++ S))))) = some (P ++ (Z1 ++ (Z2 ++ S))) ∧ StS (ltc cf) (X2 ++ Y2) Z2 := by
      by_cases hc : 0 < X2.length ∧ 0 < Y2.length
      · obtain ⟨Z2, e, hz⟩ := ih (P ++ Z1) X2 Y2 S (by omega) hc.1 hc.2 hSX.right hSY.right (by simp only [List.length_append]; omega)
        refine ⟨Z2, ?_, hz⟩
        rw [show (decide ((mid : Int) < ((mid + m - st : Nat) : Int)) && decide (((mid + m - st : Nat) : Int) < (b : Int))) = true by rw [Bool.and_eq_true, decide_eq_true_iff, decide_eq_true_iff]; omega]
        rw [List.length_append, show P.length + Z1.length = mid from by omega, show mid + X2.length = mid + m - st from by omega, show mid + m - st + Y2.length = b from by omega, List.append_assoc] at e
        rw [e]; simp
      · refine ⟨X2 ++ Y2, ?_, StS.self ?_⟩
        · rw [show (decide ((mid : Int) < ((mid + m - st : Nat) : Int)) && decide (((mid + m - st : Nat) : Int) < (b : Int))) = false by rw [Bool.and_eq_false_iff, decide_eq_false_iff_not, decide_eq_false_iff_not]; omega]
          simp
        · rcases Nat.eq_zero_or_pos X2.length with h0 | h0
          · rw [List.length_eq_zero_iff.1 h0]; simpa using hSY.right
          · rw [List.length_eq_zero_iff.1 (show Y2.length = 0 by omega)]; simpa using hSX.right
    refine ⟨Z1 ++ Z2, ?_, merge4 hs hSX hSY c1 c2 hZ1 hZ2⟩
    unfold gsymMerge_b
    rw [show ((IntKind.wrap .i64 ((m : Int) - (a : Int))) == 1) = false by rw [wrap64 (by omega) (by omega)]; simp; omega, show ((IntKind.wrap .i64 ((b : Int) - (m : Int))) == 1) = false by rw [wrap64 (by omega) (by omega)]; simp; omega]
    simp only [cond_false, hmid1, hlohi, Option.bind_some, h1, hend, hrot, hr1, hr2]
    simp
end
end Go.GB

/- Stable sorting: the whole of it. -/
set_option linter.unusedVariables false
set_option linter.unusedSimpArgs false
namespace Go.GB
section
variable {α : Type}
/-- Full runs of k elements, each sorted. -/
inductive Full (lt : α → α → Bool) (k : Nat) : List α → Prop
  | nil : Full lt k []
  | snoc {D x : List α} : Full lt k D → x.length = k → Sorted lt x → Full lt k (D ++ x)
/-- Runs of k elements, the last one may be shorter. -/
inductive Runs (lt : α → α → Bool) (k : Nat) : List α → Prop
  | last {x : List α} : x.length ≤ k → Sorted lt x → Runs lt k x
  | cons {x R : List α} : x.length = k → Sorted lt x → Runs lt k R → Runs lt k (x ++ R)
variable {lt : α → α → Bool} {k : Nat}
theorem Full.runs {D : List α} (h : Full lt k D) : ∀ {R : List α}, Runs lt k R → Runs lt k (D ++ R) := by
  induction h with
  | nil => intro R hR; exact hR
  | snoc h1 h2 h3 ih => intro R hR; rw [List.append_assoc]; exact ih (.cons h2 h3 hR)
theorem Runs.sorted {R : List α} (h : Runs lt k R) (hk : R.length ≤ k) (hk0 : 0 < k) : Sorted lt R := by
  cases h with
  | last h1 h2 => exact h2
  | @cons x R h1 h2 h3 =>
    rw [List.length_append] at hk
    have : R = [] := List.length_eq_zero_iff.1 (by omega)
    rw [this, List.append_nil]; exact h2
theorem Runs.two {R : List α} (h : Runs lt k R) (hk : k + k ≤ R.length) : ∃ x y R', R = x ++ (y ++ R') ∧ x.length = k ∧ y.length = k ∧ Sorted lt x ∧ Sorted lt y ∧ Runs lt k R' := by
  cases h with
  | last h1 h2 =>
    have h0 : k = 0 := by omega
    subst h0
    have : R = [] := List.length_eq_zero_iff.1 (by omega)
    subst this
    exact ⟨[], [], [], rfl, rfl, rfl, List.Pairwise.nil, List.Pairwise.nil, .last (by simp) List.Pairwise.nil⟩
  | @cons x R h1 h2 h3 =>
    rw [List.length_append] at hk
    cases h3 with
    | last h4 h5 => exact ⟨x, R, [], by simp, h1, by omega, h2, h5, .last (by simp) List.Pairwise.nil⟩
    | @cons y R' h4 h5 h6 => exact ⟨x, y, R', rfl, h1, h4, h2, h5, h6⟩
theorem Runs.one {R : List α} (h : Runs lt k R) (h1 : k < R.length) (h2 : R.length < k + k) : ∃ x y, R = x ++ y ∧ x.length = k ∧ Sorted lt x ∧ Sorted lt y := by
  cases h with
  | last h3 h4 => omega
  | @cons x R h3 h4 h5 =>
    rw [List.length_append] at h1 h2
    exact ⟨x, R, rfl, h3, h4, h5.sorted (by omega) (by omega)⟩
end
section
variable {α : Type} {cf : α → α → Int}
theorem gsymMerge_eq (hs : Swo (ltc cf)) {l P X Y S : List α} {a m b : Int} (hl : l = P ++ (X ++ (Y ++ S))) (hX : 0 < X.length) (hY : 0 < Y.length) (hSX : Sorted (ltc cf) X) (hSY : Sorted (ltc cf) Y) (hlen : l.length < 2147483648)
    (ha : a = (P.length : Int)) (hm : m = ((P.length + X.length : Nat) : Int)) (hb : b = ((P.length + X.length + Y.length : Nat) : Int)) : ∃ Z, gsymMerge cf l a m b = some (P ++ (Z ++ S)) ∧ StS (ltc cf) (X ++ Y) Z := by
  subst hl ha hm hb
  simp only [List.length_append] at hlen
  exact gsym_eq hs 4294967296 P X Y S (by omega) hX hY hSX hSY (by omega)
/-- Runs of twenty. -/
theorem gstable_first (hs : Swo (ltc cf)) (n : Int) (m : Nat) : ∀ (D0 D R : List α), R.length ≤ m → Full (ltc cf) 20 D → FE (ltc cf) D D0 → n = ((D.length + R.length : Nat) : Int) → D.length + R.length < 2147483648 →
    ∃ D' R', loopO (gstable_l25 cf n) (D ++ R, ((D.length : Nat) : Int), ((D.length + 20 : Nat) : Int)) = some (D' ++ R', ((D'.length : Nat) : Int)) ∧ R'.length < 20 ∧ Full (ltc cf) 20 D' ∧ n = ((D'.length + R'.length : Nat) : Int) ∧ FE (ltc cf) (D' ++ R') (D0 ++ R) := by
  induction m with
  | zero =>
    intro D0 D R hR hF hFE hn hl
    refine ⟨D, R, loopO_done ?_, by omega, hF, hn, hFE.append (FE.refl R)⟩
    unfold gstable_l25
    rw [show decide (((D.length + 20 : Nat) : Int) ≤ n) = false from decide_eq_false (by omega)]; rfl
  | succ m ih =>
    intro D0 D R hR hF hFE hn hl
    by_cases h20 : R.length < 20
    · refine ⟨D, R, loopO_done ?_, h20, hF, hn, hFE.append (FE.refl R)⟩
      unfold gstable_l25
      rw [show decide (((D.length + 20 : Nat) : Int) ≤ n) = false from decide_eq_false (by omega)]; rfl
    · obtain ⟨x, R, rfl, hx⟩ := split_at (Y := R) (k := 20) (by omega)
      have hxl : (x ++ R).length = x.length + R.length := List.length_append
      obtain ⟨Z, h1, h2⟩ := gins_eq (cf := cf) hs (l := D ++ (x ++ R)) (P := D) (X := x) (S := R) (a := ((D.length : Nat) : Int)) (b := ((D.length + 20 : Nat) : Int)) rfl (by rw [List.length_append]; omega) rfl (by rw [hx])
      have hZ : Z.length = 20 := FE.length hs _ hx h2.1.symm
      have hDZ : (D ++ Z).length = D.length + 20 := by rw [List.length_append, hZ]
      obtain ⟨D', R', h3, h4, h5, h6, h7⟩ := ih (D0 ++ x) (D ++ Z) R (by omega) (.snoc hF hZ h2.2) (hFE.append h2.1) (by omega) (by omega)
      refine ⟨D', R', ?_, h4, h5, h6, by simpa using h7⟩
      rw [loopO_step (s' := ((D ++ Z) ++ R, (((D ++ Z).length : Nat) : Int), (((D ++ Z).length + 20 : Nat) : Int))) (by
        unfold gstable_l25
        rw [show decide (((D.length + 20 : Nat) : Int) ≤ n) = true from decide_eq_true (by omega)]
        simp only [cond_true, h1, Option.bind_some]
        rw [wrap64 (by omega) (by omega), List.length_append, hZ, List.append_assoc]
        congr 3), h3]
/-- Runs of k are made runs of twice as many. -/
theorem gstable_merge (hs : Swo (ltc cf)) (n : Int) (k : Nat) (hk : 0 < k) (m : Nat) (s : List α × Int) (hsk : s.2 = (k : Int)) : ∀ (D R : List α), R.length ≤ m → Full (ltc cf) (2 * k) D → Runs (ltc cf) k R → n = ((D.length + R.length : Nat) : Int) → D.length + R.length + 2 * k < 8589934592 → D.length + R.length < 2147483648 →
    ∃ D' R', loopO (gstable_l95 cf n s) (D ++ R, ((D.length : Nat) : Int), ((D.length + 2 * k : Nat) : Int)) = some (D' ++ R', ((D'.length : Nat) : Int)) ∧ R'.length < 2 * k ∧ Full (ltc cf) (2 * k) D' ∧ Runs (ltc cf) k R' ∧ n = ((D'.length + R'.length : Nat) : Int) ∧ FE (ltc cf) (D' ++ R') (D ++ R) := by
  induction m with
  | zero =>
    intro D R hR hF hRr hn hl hl2
    refine ⟨D, R, loopO_done ?_, by omega, hF, hRr, hn, FE.refl _⟩
    unfold gstable_l95
    rw [show decide (((D.length + 2 * k : Nat) : Int) ≤ n) = false from decide_eq_false (by omega)]; rfl
  | succ m ih =>
    intro D R hR hF hRr hn hl hl2
    by_cases h2k : R.length < 2 * k
    · refine ⟨D, R, loopO_done ?_, h2k, hF, hRr, hn, FE.refl _⟩
      unfold gstable_l95
      rw [show decide (((D.length + 2 * k : Nat) : Int) ≤ n) = false from decide_eq_false (by omega)]; rfl
    · obtain ⟨x, y, R, rfl, hx, hy, hSx, hSy, hRr'⟩ := hRr.two (by omega)
      simp only [List.length_append] at hR hn hl hl2
      obtain ⟨Z, h1, h2⟩ := gsymMerge_eq (cf := cf) hs (l := D ++ (x ++ (y ++ R))) (P := D) (X := x) (Y := y) (S := R) (a := ((D.length : Nat) : Int)) (m := IntKind.wrap .i64 (((D.length : Nat) : Int) + s.2)) (b := ((D.length + 2 * k : Nat) : Int)) rfl (by omega) (by omega) hSx hSy (by simp only [List.length_append]; omega) rfl
        (by rw [hsk, wrap64 (by omega) (by omega)]; omega) (by omega)
      have hZ : Z.length = 2 * k := FE.length hs _ (by rw [List.length_append]; omega) h2.1.symm
      have hDZ : (D ++ Z).length = D.length + 2 * k := by rw [List.length_append, hZ]
      obtain ⟨D', R', h3, h4, h5, h6, h7, h8⟩ := ih (D ++ Z) R (by omega) (.snoc hF hZ h2.2) hRr' (by omega) (by omega) (by omega)
      refine ⟨D', R', ?_, h4, h5, h6, h7, h8.trans ?_⟩
      · rw [loopO_step (s' := ((D ++ Z) ++ R, (((D ++ Z).length : Nat) : Int), (((D ++ Z).length + 2 * k : Nat) : Int))) (by
          unfold gstable_l95
          rw [show decide (((D.length + 2 * k : Nat) : Int) ≤ n) = true from decide_eq_true (by omega)]
          simp only [cond_true, h1, Option.bind_some]
          rw [hsk, wrap64 (x := 2 * (k : Int)) (by omega) (by omega), wrap64 (by omega) (by omega), List.length_append, hZ, List.append_assoc]
          congr 3), h3]
      · have := FE.mid (P := D) (S := R) h2.1
        simpa using this
theorem gstable_rounds (hs : Swo (ltc cf)) (l0 : List α) (m : Nat) : ∀ (l : List α) (k : Nat), 0 < k → l.length - k ≤ m → Runs (ltc cf) k l → FE (ltc cf) l l0 → l.length < 2147483648 →
    ∃ z, loopO (gstable_l68 cf ((l.length : Nat) : Int)) (l, ((k : Nat) : Int)) = some z ∧ StS (ltc cf) l0 z := by
  induction m with
  | zero =>
    intro l k hk hm hR hFE hl
    refine ⟨l, loopO_done ?_, hFE, hR.sorted (by omega) hk⟩
    unfold gstable_l68
    rw [show decide (((k : Nat) : Int) < ((l.length : Nat) : Int)) = false from decide_eq_false (by omega)]; rfl
  | succ m ih =>
    intro l k hk hm hR hFE hl
    by_cases hkl : l.length ≤ k
    · refine ⟨l, loopO_done ?_, hFE, hR.sorted hkl hk⟩
      unfold gstable_l68
      rw [show decide (((k : Nat) : Int) < ((l.length : Nat) : Int)) = false from decide_eq_false (by omega)]; rfl
    · obtain ⟨D, R, h1, h2, h3, h4, h5, h6⟩ := gstable_merge (cf := cf) hs ((l.length : Nat) : Int) k hk l.length (l, ((k : Nat) : Int)) rfl [] l (Nat.le_refl _) .nil hR (by simp) (by simp; omega) (by simpa using hl)
      simp only [List.nil_append, List.length_nil, Nat.zero_add] at h1 h6
      rw [show ((0 : Nat) : Int) = 0 from rfl] at h1
      have hlen : (D ++ R).length = l.length := by rw [List.length_append]; omega
      obtain ⟨w, hw1, hw2, hw3⟩ : ∃ w, (bif (decide ((IntKind.wrap .i64 (((D.length : Nat) : Int) + ((k : Nat) : Int))) < ((l.length : Nat) : Int))) then (Option.bind (gsymMerge cf (D ++ R) ((D.length : Nat) : Int) (IntKind.wrap .i64 (((D.length : Nat) : Int) + ((k : Nat) : Int))) ((l.length : Nat) : Int)) fun (y115 : List α) => some y115) else some (D ++ R)) = some w ∧ Runs (ltc cf) (2 * k) w ∧ FE (ltc cf) w (D ++ R) := by
        by_cases hRk : k < R.length
        · obtain ⟨x, y, rfl, hx, hSx, hSy⟩ := h4.one hRk (by omega)
          simp only [List.length_append] at h5 hRk h2
          obtain ⟨Z, g1, g2⟩ := gsymMerge_eq (cf := cf) hs (l := D ++ (x ++ y)) (P := D) (X := x) (Y := y) (S := []) (a := ((D.length : Nat) : Int)) (m := IntKind.wrap .i64 (((D.length : Nat) : Int) + ((k : Nat) : Int))) (b := ((l.length : Nat) : Int)) (by simp) (by omega) (by omega) hSx hSy (by simp only [List.length_append]; omega) rfl
            (by rw [wrap64 (by omega) (by omega)]; omega) (by omega)
          refine ⟨D ++ Z, ?_, ?_, ?_⟩
          · rw [show decide ((IntKind.wrap .i64 (((D.length : Nat) : Int) + ((k : Nat) : Int))) < ((l.length : Nat) : Int)) = true from decide_eq_true (by rw [wrap64 (by omega) (by omega)]; omega)]
            rw [g1]; simp
          · refine h3.runs (.last ?_ g2.2)
            rw [FE.length hs _ rfl g2.1.symm, List.length_append]; omega
          · exact (FE.refl D).append g2.1
        · refine ⟨D ++ R, ?_, h3.runs (.last (by omega) (h4.sorted (by omega) hk)), FE.refl _⟩
          rw [show decide ((IntKind.wrap .i64 (((D.length : Nat) : Int) + ((k : Nat) : Int))) < ((l.length : Nat) : Int)) = false from decide_eq_false (by rw [wrap64 (by omega) (by omega)]; omega)]
          rfl
      have hwl : w.length = l.length := by rw [← hlen]; exact FE.length hs _ rfl hw3.symm
      obtain ⟨z, hz, hz2⟩ := ih w (2 * k) (by omega) (by omega) hw2 (hw3.trans (h6.trans hFE)) (by omega)
      refine ⟨z, ?_, hz2⟩
      rw [hwl] at hz
      rw [loopO_step (s' := (w, ((2 * k : Nat) : Int))) (by
        unfold gstable_l68
        rw [show decide (((k : Nat) : Int) < ((l.length : Nat) : Int)) = true from decide_eq_true (by omega)]
        simp only [cond_true]
        rw [wrap64 (x := 2 * ((k : Nat) : Int)) (by omega) (by omega), show (2 * ((k : Nat) : Int)) = ((2 * k : Nat) : Int) from by omega, h1]
        simp only [Option.bind_some, hw1]
        rw [wrap64 (by omega) (by omega)]
        congr 3; omega), hz]
/-- The library's stable sort is a stable sort. -/
theorem gSortStable_eq (hs : Swo (ltc cf)) (l : List α) (hl : l.length < 2147483648) : ∃ z, gSortStable cf l = some z ∧ StS (ltc cf) l z := by
  obtain ⟨D, R, h1, h2, h3, h4, h5⟩ := gstable_first (cf := cf) hs ((l.length : Nat) : Int) l.length [] [] l (Nat.le_refl _) .nil (FE.refl _) (by simp) (by simpa using hl)
  simp only [List.nil_append, List.length_nil, Nat.zero_add] at h1 h5
  obtain ⟨Z, g1, g2⟩ := gins_eq (cf := cf) hs (l := D ++ R) (P := D) (X := R) (S := []) (a := ((D.length : Nat) : Int)) (b := ((l.length : Nat) : Int)) (by simp) (by rw [List.length_append]; omega) rfl h4
  have hZ : Z.length = R.length := FE.length hs _ rfl g2.1.symm
  obtain ⟨z, e1, e2⟩ := gstable_rounds (cf := cf) hs l (D ++ Z).length (D ++ Z) 20 (by omega) (by omega) (h3.runs (.last (by omega) g2.2)) (((FE.refl D).append g2.1).trans h5) (by rw [List.length_append]; omega)
  refine ⟨z, ?_, e2⟩
  unfold gSortStable gstable
  have h0 : loopO (gstable_l25 cf ((l.length : Nat) : Int)) (l, 0, 20) = some (D ++ R, ((D.length : Nat) : Int)) := h1
  rw [h0]
  simp only [Option.bind_some, g1, List.append_nil]
  rw [show ((l.length : Nat) : Int) = (((D ++ Z).length : Nat) : Int) by rw [List.length_append, hZ]; exact h4]
  have e1' : loopO (gstable_l68 cf (((D ++ Z).length : Nat) : Int)) (D ++ Z, 20) = some z := e1
  rw [e1']; rfl
end
end Go.GB

/- Plain laws of chapter 4: lists alike, lists that are gathered, label sets that are sorted. -/
set_option linter.unusedVariables false
set_option linter.unusedSimpArgs false
set_option maxRecDepth 100000
namespace Go.Proofs.YtnlkfajnaelnnaaGreatDoor
open Go.GB Go.Lib
abbrev LB := S49
/-- A loop over a list that gathers. -/
theorem fold_up {α β ρ : Type} {body : β × Int → Option ((β × Int) ⊕ ρ)} (l : List α) (f : β → α → β) (g : β → ρ) (Inv : β → Nat → Prop)
    (h : ∀ (acc : β) (i : Nat) (hi : i < l.length), Inv acc i → body (acc, (i : Int)) = some (.inl (f acc l[i], ((i + 1 : Nat) : Int))) ∧ Inv (f acc l[i]) (i + 1))
    (he : ∀ acc, Inv acc l.length → body (acc, (l.length : Int)) = some (.inr (g acc))) :
    ∀ (d i : Nat) (acc : β), l.length - i = d → i ≤ l.length → Inv acc i → loopO body (acc, (i : Int)) = some (g ((l.drop i).foldl f acc)) := by
  intro d
  induction d with
  | zero =>
    intro i acc hd hi hI
    obtain rfl : i = l.length := by omega
    rw [List.drop_length]
    exact loopO_done (he acc hI)
  | succ d ih =>
    intro i acc hd hi hI
    have hlt : i < l.length := by omega
    obtain ⟨h1, h2⟩ := h acc i hlt hI
    rw [List.drop_eq_getElem_cons hlt, List.foldl_cons, loopO_step h1]
    exact ih (i + 1) _ (by omega) (by omega) h2
theorem fold_filter {α : Type} (p : α → Bool) : ∀ (l acc : List α), l.foldl (fun acc x => bif p x then acc ++ [x] else acc) acc = acc ++ l.filter p
  | [], acc => by simp
  | x :: l, acc => by
    rw [List.foldl_cons, fold_filter p l]
    cases h : p x <;> simp [h]
/-- A loop that gathers those of a kind. -/
theorem filter_up {α ρ : Type} {body : List α × Int → Option ((List α × Int) ⊕ ρ)} (l : List α) (p : α → Bool) (g : List α → ρ) (hl : l.length ≤ 2147483648)
    (h : ∀ (acc : List α) (i : Nat) (hi : i < l.length), acc.length ≤ i → body (acc, (i : Int)) = some (.inl ((bif p l[i] then acc ++ [l[i]] else acc), ((i + 1 : Nat) : Int))))
    (he : ∀ acc, body (acc, (l.length : Int)) = some (.inr (g acc))) : loopO body ([], 0) = some (g (l.filter p)) := by
  have := fold_up (body := body) l (fun acc x => bif p x then acc ++ [x] else acc) g (fun acc i => acc.length ≤ i) (fun acc i hi hI => ⟨h acc i hi hI, by cases p l[i] <;> simp <;> omega⟩) (fun acc _ => he acc) l.length 0 [] (by omega) (by omega) (by simp)
  rw [List.drop_zero, fold_filter, List.nil_append] at this
  exact this
/-- Is there one of a kind? -/
theorem up_any {ρ : Type} {body : Int → Option (Int ⊕ (Unit ⊕ ρ))} {n : Nat} (q : Nat → Bool) (v : ρ) (h : ∀ i : Nat, i < n → body i = some (bif q i then .inr (.inr v) else .inl ((i + 1 : Nat) : Int))) (he : body n = some (.inr (.inl ()))) :
    loopO body 0 = some (bif (List.range n).any q then .inr v else .inl ()) := by
  rw [up_find (fun i => if q i then some v else none) (fun i hi => by rw [h i hi]; cases q i <;> rfl) he]
  congr 1
  cases ha : (List.range n).any q with
  | true =>
    obtain ⟨i, hi, hq⟩ := List.any_eq_true.1 ha
    cases hf : (List.range n).findSome? (fun i => if q i then some v else none) with
    | none =>
      rw [List.findSome?_eq_none_iff] at hf
      have := hf i hi
      rw [if_pos hq] at this; cases this
    | some b =>
      obtain ⟨j, _, hj⟩ := List.exists_of_findSome?_eq_some hf
      split at hj
      · cases hj; rfl
      · cases hj
  | false =>
    rw [List.any_eq_false] at ha
    have : (List.range n).findSome? (fun i => if q i then some v else none) = none := by
      rw [List.findSome?_eq_none_iff]
      intro i hi
      rw [if_neg (ha i hi)]
    rw [this]; rfl
theorem any_range {α : Type} (l : List α) (f : α → Bool) : ((List.range l.length).any fun i => (l[i]?).any f) = l.any f := by
  rw [Bool.eq_iff_iff, List.any_eq_true, List.any_eq_true]
  constructor
  · rintro ⟨i, hi, h⟩
    have hi' := List.mem_range.1 hi
    rw [List.getElem?_eq_getElem hi', Option.any_some] at h
    exact ⟨l[i], List.getElem_mem hi', h⟩
  · rintro ⟨x, hx, h⟩
    obtain ⟨i, hi, rfl⟩ := List.getElem_of_mem hx
    exact ⟨i, List.mem_range.2 hi, by rw [List.getElem?_eq_getElem hi, Option.any_some]; exact h⟩
theorem LB_ext {x y : LB} : ((x.f0.toList == y.f0.toList) && (x.f1.toList == y.f1.toList)) = true ↔ x = y := by
  rw [Bool.and_eq_true, toList_inj, toList_inj]
  constructor
  · rintro ⟨h1, h2⟩
    cases x; cases y; simp only at h1 h2; rw [h1, h2]
  · rintro rfl; exact ⟨rfl, rfl⟩
theorem same_eq (a b : List LB) (ha : a.length < 4294967296) : ∃ r, tocsinlaw04_same a b = some r ∧ (r = true ↔ a = b) := by
  unfold tocsinlaw04_same
  by_cases hl : a.length = b.length
  · rw [show ((a.length : Int) != (b.length : Int)) = false by rw [hl]; simp, cond_false]
    have key : ∀ d i : Nat, a.length - i = d → i ≤ a.length → ∃ r : Unit ⊕ Bool, loopO (tocsinlaw04_same_l18 a b) (i : Int) = some r ∧ ((r = .inl () ∧ a.drop i = b.drop i) ∨ (r = .inr false ∧ a.drop i ≠ b.drop i)) := by
      intro d
      induction d with
      | zero =>
        intro i hd hi
        refine ⟨.inl (), loopO_done (by
          unfold tocsinlaw04_same_l18
          rw [show decide ((i : Int) < (a.length : Int)) = false from decide_eq_false (by omega)]; rfl), .inl ⟨rfl, ?_⟩⟩
        rw [List.drop_of_length_le (by omega), List.drop_of_length_le (by omega)]
      | succ d ih =>
        intro i hd hi
        have h1 : i < a.length := by omega
        have h2 : i < b.length := by omega
        have hx : ix a (i : Int) = some a[i] := by rw [ix_nat, List.getElem?_eq_getElem h1]
        have hy : ix b (i : Int) = some b[i] := by rw [ix_nat, List.getElem?_eq_getElem h2]
        rw [List.drop_eq_getElem_cons h1, List.drop_eq_getElem_cons h2]
        cases he : ((a[i].f0.toList == b[i].f0.toList) && (a[i].f1.toList == b[i].f1.toList)) with
        | true =>
          obtain ⟨r, hr, hr'⟩ := ih (i + 1) (by omega) (by omega)
          refine ⟨r, ?_, ?_⟩
          · rw [loopO_step (s' := ((i + 1 : Nat) : Int)) (by
              unfold tocsinlaw04_same_l18
              rw [show decide ((i : Int) < (a.length : Int)) = true from decide_eq_true (by omega)]
              simp only [cond_true, hx, hy, Option.bind_some, he, Bool.not_true, cond_false, wrap_up (show i < 4294967296 by omega)])]
            exact hr
          · rw [LB_ext.1 he]
            rcases hr' with ⟨q1, q2⟩ | ⟨q1, q2⟩
            · exact .inl ⟨q1, by rw [q2]⟩
            · exact .inr ⟨q1, fun e => q2 (List.cons.inj e).2⟩
        | false =>
          refine ⟨.inr false, loopO_done (by
            unfold tocsinlaw04_same_l18
            rw [show decide ((i : Int) < (a.length : Int)) = true from decide_eq_true (by omega)]
            simp only [cond_true, hx, hy, Option.bind_some, he, Bool.not_false]), .inr ⟨rfl, fun e => ?_⟩⟩
          rw [LB_ext.2 (List.cons.inj e).1] at he; cases he
    obtain ⟨r, hr, hr'⟩ := key a.length 0 (by omega) (by omega)
    rw [show ((0 : Nat) : Int) = 0 from rfl] at hr
    rw [hr, Option.bind_some]
    rw [List.drop_zero, List.drop_zero] at hr'
    rcases hr' with ⟨rfl, e⟩ | ⟨rfl, e⟩
    · exact ⟨true, rfl, by simp [e]⟩
    · exact ⟨false, rfl, by simp [e]⟩
  · rw [show ((a.length : Int) != (b.length : Int)) = true by simp; omega, cond_true]
    exact ⟨false, rfl, by simp; intro e; exact hl (by rw [e])⟩
theorem same_self (a : List LB) (ha : a.length < 4294967296) : tocsinlaw04_same a a = some true := by
  obtain ⟨r, h1, h2⟩ := same_eq a a ha
  rw [h1, h2.2 rfl]
end Go.Proofs.YtnlkfajnaelnnaaGreatDoor

/- Plain laws of chapter 4: label sets that are sorted, made, picked: the program's are the document's. -/
set_option linter.unusedVariables false
set_option linter.unusedSimpArgs false
set_option maxRecDepth 100000
namespace Go.Proofs.YtnlkfajnaelnnaaGreatDoor
open Go.GB Go.Lib
noncomputable abbrev ltN : LB → LB → Bool := ltc labels_sorted_1
theorem ltN_eq (x y : LB) : ltN x y = decide (cmpS x.f0 y.f0 = -1) := by
  show decide (labels_sorted_1 x y < 0) = _
  have h : labels_sorted_1 x y = cmpS x.f0 y.f0 := rfl
  rw [h]
  rcases cmpS_range x.f0 y.f0 with h | h | h <;> rw [h] <;> rfl
theorem swoN : Swo ltN := by
  refine ⟨fun a b h => ?_, fun a b c h1 h2 => ?_⟩
  · rw [ltN_eq] at h ⊢
    have h := of_decide_eq_true h
    rw [cmpS_swap a.f0 b.f0, h]; rfl
  · rw [ltN_eq] at h1 h2 ⊢
    have h1 := of_decide_eq_false h1
    have h2 := of_decide_eq_false h2
    refine decide_eq_false fun h3 => ?_
    have r1 := cmpS_range b.f0 a.f0
    have r2 := cmpS_range c.f0 b.f0
    have s1 := cmpS_swap b.f0 a.f0
    have s2 := cmpS_swap c.f0 b.f0
    have s3 := cmpS_swap c.f0 a.f0
    by_cases e1 : cmpS b.f0 a.f0 = 0
    · have := cmpS_zero e1; rw [this] at h2; exact h2 h3
    · by_cases e2 : cmpS c.f0 b.f0 = 0
      · have := cmpS_zero e2; rw [← this] at h1; exact h1 h3
      · have := cmpS_trans (a := a.f0) (b := b.f0) (c := c.f0) (by omega) (by omega)
        omega
theorem eqvN (k x : LB) : eqv ltN k x = true ↔ k.f0 = x.f0 := by
  rw [eqv_iff, ltN_eq, ltN_eq, decide_eq_false_iff_not, decide_eq_false_iff_not]
  constructor
  · rintro ⟨h1, h2⟩
    have r1 := cmpS_range k.f0 x.f0
    have s1 := cmpS_swap k.f0 x.f0
    exact cmpS_zero (by omega)
  · intro h; rw [h, cmpS_self]; constructor <;> omega
theorem stable_is : (slices_SortStableFunc : List LB → Option (List LB)) = gSortStable labels_sorted_1 := rfl
theorem stable_eq (l : List LB) (hl : l.length < 2147483648) : ∃ z, slices_SortStableFunc l = some z ∧ StS ltN l z := by
  rw [stable_is]; exact gSortStable_eq swoN l hl
theorem own_eq (l : List LB) (hl : l.length < 2147483648) : labels_own l = some l := by
  unfold labels_own mkrow
  rw [if_pos (by omega)]
  simp only [Option.bind_some, Int.toNat_natCast]
  unfold lcopy
  rw [List.length_replicate, List.take_of_length_le (Nat.le_refl _), List.drop_of_length_le (by simp), List.append_nil]
def hasV (x : LB) : Bool := !(x.f1.toList == (⟨#[]⟩ : ByteArray).toList)
/-- Two neighbours of one name. -/
def adjB (z : List LB) (n : Nat) : Bool := (List.range n).any fun i => bif decide (0 < i) then (match z[i - 1]?, z[i]? with | some x, some y => (x.f0.toList == y.f0.toList) | _, _ => false) else false
theorem adjB_succ (z : List LB) (i : Nat) (h : i < z.length) : adjB z (i + 1) = (adjB z i || (bif decide (0 < i) then (match z[i - 1]? with | some x => (x.f0.toList == z[i].f0.toList) | none => false) else false)) := by
  unfold adjB
  rw [List.range_succ, List.any_append, List.any_cons, List.any_nil, Bool.or_false, List.getElem?_eq_getElem h]
  congr 1
  cases decide (0 < i)
  · rfl
  · simp only [cond_true]
    cases z[i - 1]? <;> rfl
theorem sorted_eq (l : List LB) (hl : l.length < 2147483648) : ∃ z, labels_sorted l = some (z.filter hasV, adjB z z.length) ∧ StS ltN l z := by
  obtain ⟨z, h1, h2⟩ := stable_eq l hl
  refine ⟨z, ?_, h2⟩
  have hz : z.length = l.length := FE.length swoN _ rfl h2.1.symm
  unfold labels_sorted
  rw [own_eq l hl]
  simp only [Option.bind_some, h1]
  have key : ∀ d i : Nat, z.length - i = d → i ≤ z.length → loopO (labels_sorted_l45 z) ((z.take i).filter hasV, adjB z i, (i : Int)) = some (z.filter hasV, adjB z z.length) := by
    intro d
    induction d with
    | zero =>
      intro i hd hi
      obtain rfl : i = z.length := by omega
      rw [List.take_of_length_le (Nat.le_refl _)]
      refine loopO_done ?_
      unfold labels_sorted_l45
      rw [show decide ((z.length : Int) < (z.length : Int)) = false from decide_eq_false (by omega)]; rfl
    | succ d ih =>
      intro i hd hi
      have hlt : i < z.length := by omega
      have hx : ix z (i : Int) = some z[i] := by rw [ix_nat, List.getElem?_eq_getElem hlt]
      rw [loopO_step (s' := ((z.take (i + 1)).filter hasV, adjB z (i + 1), ((i + 1 : Nat) : Int))) (by
        unfold labels_sorted_l45
        rw [show decide ((i : Int) < (z.length : Int)) = true from decide_eq_true (by omega)]
        simp only [cond_true, hx, Option.bind_some]
        have hb : (bif adjB z i then some true else bif (decide ((i : Int) > 0)) then (Option.bind (ix z (IntKind.wrap .i64 ((i : Int) - 1))) fun (x65 : LB) => some (x65.f0.toList == z[i].f0.toList)) else some false) = some (adjB z (i + 1)) := by
          rw [adjB_succ z i hlt]
          cases adjB z i
          · by_cases h0 : 0 < i
            · rw [show decide ((i : Int) > 0) = true from decide_eq_true (by omega), show decide (0 < i) = true from decide_eq_true h0]
              rw [wrap64 (by omega) (by omega), show (i : Int) - 1 = ((i - 1 : Nat) : Int) by omega, ix_nat, List.getElem?_eq_getElem (show i - 1 < z.length by omega)]
              simp
            · rw [show decide ((i : Int) > 0) = false from decide_eq_false (by omega), show decide (0 < i) = false from decide_eq_false h0]
              rfl
          · rfl
        rw [hb]
        simp only [Option.bind_some, wrap_up (show i < 4294967296 by omega)]
        rw [show (!(z[i].f1.toList == (⟨#[]⟩ : ByteArray).toList)) = hasV z[i] from rfl]
        have ht : z.take (i + 1) = z.take i ++ [z[i]] := by rw [List.take_add_one, List.getElem?_eq_getElem hlt]; rfl
        rw [ht, List.filter_append]
        have hlen : ((z.take i).filter hasV).length ≤ i := Nat.le_trans (List.length_filter_le _ _) (by rw [List.length_take]; omega)
        cases hv : hasV z[i]
        · simp [hv]
        · rw [app_eq (by simp; omega)]
          simp [hv])]
      exact ih (i + 1) (by omega) (by omega)
  have k0 := key z.length 0 (by omega) (by omega)
  rw [List.take_zero, List.filter_nil] at k0
  have k1 : loopO (labels_sorted_l45 z) ([], false, 0) = some (z.filter hasV, adjB z z.length) := k0
  rw [k1]; rfl
/-- The document's insertion. -/
theorem refIns_loop (x : LB) (n : Nat) : ∀ (U V : List LB) (g : LB), U.length = n → U.length + V.length < 2147483648 →
    ∃ U' W g', U = U' ++ W ∧ loopO (tocsinref04_sorted_l74 x) (U ++ (g :: V), ((U.length : Nat) : Int)) = some (U' ++ (g' :: (W ++ V)), ((U'.length : Nat) : Int)) ∧ (∀ v ∈ W, ltN x v = true) ∧ (U' = [] ∨ ∃ U'' z, U' = U'' ++ [z] ∧ ltN x z = false) := by
  induction n with
  | zero =>
    intro U V g hn hl
    have : U = [] := List.length_eq_zero_iff.1 hn
    subst this
    refine ⟨[], [], g, rfl, loopO_done ?_, (fun v hv => by cases hv), .inl rfl⟩
    unfold tocsinref04_sorted_l74
    simp
  | succ n ih =>
    intro U V g hn hl
    obtain ⟨U', z, rfl⟩ := snoc_of (Y := U) (by omega)
    simp only [List.length_append, List.length_cons, List.length_nil] at hn hl
    have hl0 : (U' ++ [z]) ++ (g :: V) = U' ++ z :: ([] ++ g :: V) := by simp
    have ej : (((U' ++ [z]).length : Nat) : Int) = ((U'.length + 1 + ([] : List LB).length : Nat) : Int) := by simp
    have ei : IntKind.wrap .i64 ((((U' ++ [z]).length : Nat) : Int) - 1) = ((U'.length : Nat) : Int) := by
      simp only [List.length_append, List.length_cons, List.length_nil]; rw [wrap64 (by omega) (by omega)]; omega
    obtain ⟨e1, e2, e3, e4⟩ := ex_down hl0 rfl ej
    have hgt : decide ((((U' ++ [z]).length : Nat) : Int) > 0) = true := decide_eq_true (by simp only [List.length_append, List.length_cons, List.length_nil]; omega)
    have hcmp : (!((Op.bytesLess z.f0.toList x.f0.toList) || (z.f0.toList == x.f0.toList))) = ltN x z := by
      rw [less_eq, beq_eq, ltN_eq, cmpS_swap z.f0 x.f0]
      rcases cmpS_range z.f0 x.f0 with h | h | h <;> rw [h] <;> rfl
    cases hlt : ltN x z with
    | false =>
      refine ⟨U' ++ [z], [], g, by simp, loopO_done ?_, (fun v hv => by cases hv), .inr ⟨U', z, rfl, hlt⟩⟩
      unfold tocsinref04_sorted_l74
      simp only [hgt, cond_true, ei, e1, Option.bind_some, hcmp, hlt, cond_false, List.nil_append]
    | true =>
      obtain ⟨A, W, g', rfl, h1, h2, h3⟩ := ih U' (z :: V) z (by omega) (by simp; omega)
      refine ⟨A, W ++ [z], g', by simp, ?_, fun v hv => ?_, h3⟩
      · have e5 : lset (((A ++ W) ++ [z]) ++ (g :: V)) ((((A ++ W) ++ [z]).length : Nat) : Int) z = (A ++ W) ++ (z :: (z :: V)) := by
          rw [lset_at (A := (A ++ W) ++ [z]) (B := V) (x := g) rfl rfl]; simp
        rw [loopO_step (s' := ((A ++ W) ++ (z :: (z :: V)), (((A ++ W).length : Nat) : Int))) (by
          unfold tocsinref04_sorted_l74
          simp only [hgt, cond_true, ei, e1, Option.bind_some, hcmp, hlt, e2, e5]), h1]
        simp
      · rcases List.mem_append.1 hv with hv | hv
        · exact h2 v hv
        · rw [List.mem_singleton.1 hv]; exact hlt
theorem refSorted_eq (l : List LB) (hl : l.length < 2147483648) : ∃ z, tocsinref04_sorted l = some z ∧ StS ltN l z := by
  have key : ∀ d i : Nat, ∀ acc : List LB, l.length - i = d → i ≤ l.length → StS ltN (l.take i) acc → ∃ z, loopO (tocsinref04_sorted_l28 l) (acc, (i : Int)) = some z ∧ StS ltN l z := by
    intro d
    induction d with
    | zero =>
      intro i acc hd hi hS
      obtain rfl : i = l.length := by omega
      rw [List.take_of_length_le (Nat.le_refl _)] at hS
      refine ⟨acc, loopO_done ?_, hS⟩
      unfold tocsinref04_sorted_l28
      rw [show decide ((l.length : Int) < (l.length : Int)) = false from decide_eq_false (by omega)]; rfl
    | succ d ih =>
      intro i acc hd hi hS
      have hlt : i < l.length := by omega
      have hx : ix l (i : Int) = some l[i] := by rw [ix_nat, List.getElem?_eq_getElem hlt]
      have hacc : acc.length = i := by rw [FE.length swoN _ rfl hS.1.symm, List.length_take]; omega
      obtain ⟨U, W, g', rfl, h1, h2, h3⟩ := refIns_loop l[i] acc.length acc [] l[i] rfl (by simp; omega)
      have ht : l.take (i + 1) = l.take i ++ [l[i]] := by rw [List.take_add_one, List.getElem?_eq_getElem hlt]; rfl
      obtain ⟨z, hz, hz2⟩ := ih (i + 1) (U ++ (l[i] :: W)) (by omega) (by omega) (by rw [ht]; exact ins_sts swoN hS h2 h3)
      refine ⟨z, ?_, hz2⟩
      rw [loopO_step (s' := (U ++ (l[i] :: W), ((i + 1 : Nat) : Int))) (by
        unfold tocsinref04_sorted_l28
        rw [show decide ((i : Int) < (l.length : Int)) = true from decide_eq_true (by omega)]
        simp only [cond_true, hx, Option.bind_some]
        rw [app_eq (by rw [hacc]; simp; omega)]
        simp only [Option.bind_some, h1, List.append_nil]
        rw [ix_at (A := U) (B := W) (x := g') rfl rfl]
        simp only [Option.bind_some]
        rw [lset_at (A := U) (B := W) (x := g') rfl rfl, wrap_up (by omega)]), hz]
  obtain ⟨z, h1, h2⟩ := key l.length 0 [] (by omega) (by omega) (StS.self List.Pairwise.nil)
  refine ⟨z, ?_, h2⟩
  unfold tocsinref04_sorted
  have h1' : loopO (tocsinref04_sorted_l28 l) ([], 0) = some z := h1
  rw [h1']; rfl
end Go.Proofs.YtnlkfajnaelnnaaGreatDoor

/- Plain laws of chapter 4: names that stand twice; Make, Pick, With. -/
set_option linter.unusedVariables false
set_option linter.unusedSimpArgs false
set_option maxRecDepth 100000
namespace Go.Proofs.YtnlkfajnaelnnaaGreatDoor
open Go.GB Go.Lib
/-- No name stands twice. -/
def Once (l : List LB) : Prop := ∀ k, (l.filter (eqv ltN k)).length ≤ 1
theorem Once.fe {l m : List LB} (h : FE ltN l m) : Once l ↔ Once m := ⟨fun o k => by rw [← h k]; exact o k, fun o k => by rw [h k]; exact o k⟩
theorem Once.cons {x : LB} {l : List LB} : Once (x :: l) ↔ (∀ y ∈ l, x.f0 ≠ y.f0) ∧ Once l := by
  constructor
  · intro h
    refine ⟨fun y hy e => ?_, fun k => ?_⟩
    · have := h x
      rw [List.filter_cons_of_pos (swoN.eqv_self x), List.length_cons] at this
      have h2 : 0 < (l.filter (eqv ltN x)).length := List.length_pos_of_mem (List.mem_filter.2 ⟨hy, (eqvN x y).2 e⟩)
      omega
    · have := h k
      cases hk : eqv ltN k x with
      | true => rw [List.filter_cons_of_pos hk, List.length_cons] at this; omega
      | false => rw [List.filter_cons_of_neg (by rw [hk]; exact Bool.false_ne_true)] at this; exact this
  · rintro ⟨h1, h2⟩ k
    cases hk : eqv ltN k x with
    | true =>
      have hn : l.filter (eqv ltN k) = [] := by
        rw [List.filter_eq_nil_iff]
        intro y hy hky
        exact h1 y hy (((eqvN k x).1 hk).symm.trans ((eqvN k y).1 hky))
      rw [List.filter_cons_of_pos hk, hn]; simp
    | false => rw [List.filter_cons_of_neg (by rw [hk]; exact Bool.false_ne_true)]; exact h2 k
theorem Once.nil : Once [] := fun k => by simp
theorem Once.pairwise {l : List LB} : Once l ↔ l.Pairwise fun x y => x.f0 ≠ y.f0 := by
  induction l with
  | nil => exact ⟨fun _ => List.Pairwise.nil, fun _ => Once.nil⟩
  | cons x l ih => rw [Once.cons, List.pairwise_cons, ih]
/-- Of a sorted list two neighbours tell it. -/
theorem adjB_once {z : List LB} (h : Sorted ltN z) : adjB z z.length = true ↔ ¬ Once z := by
  rw [Once.pairwise]
  constructor
  · intro ha hp
    obtain ⟨i, hi, hb⟩ := List.any_eq_true.1 ha
    have hi' := List.mem_range.1 hi
    by_cases h0 : 0 < i
    · rw [show decide (0 < i) = true from decide_eq_true h0] at hb
      simp only [cond_true, List.getElem?_eq_getElem (show i - 1 < z.length by omega), List.getElem?_eq_getElem hi'] at hb
      exact List.pairwise_iff_getElem.1 hp (i - 1) i (by omega) hi' (by omega) (toList_inj.1 hb)
    · rw [show decide (0 < i) = false from decide_eq_false h0] at hb; cases hb
  · intro hp
    rw [← Bool.not_eq_false]
    intro ha
    apply hp
    rw [List.pairwise_iff_getElem]
    intro i j hi hj hij e
    -- then i and i + 1 have one name too
    have s1 : ltN z[i + 1] z[i] = false := List.pairwise_iff_getElem.1 h i (i + 1) hi (by omega) (by omega)
    have s2 : ltN z[j] z[i + 1] = false := by
      rcases Nat.lt_or_ge (i + 1) j with h' | h'
      · exact List.pairwise_iff_getElem.1 h (i + 1) j (by omega) hj h'
      · obtain rfl : j = i + 1 := by omega
        exact swoN.irrefl _
    have e1 : z[i].f0 = z[i + 1].f0 := by
      refine (eqvN _ _).1 (eqv_iff.2 ⟨?_, s1⟩)
      rw [ltN_eq] at s2 ⊢
      rw [e]; exact s2
    have : adjB z z.length = true := by
      refine List.any_eq_true.2 ⟨i + 1, List.mem_range.2 (by omega), ?_⟩
      rw [show decide (0 < i + 1) = true from decide_eq_true (by omega)]
      simp only [cond_true, Nat.add_sub_cancel, List.getElem?_eq_getElem hi, List.getElem?_eq_getElem (show i + 1 < z.length by omega)]
      exact toList_inj.2 e1
    rw [this] at ha; cases ha
theorem twice_eq (l : List LB) (hl : l.length < 2147483648) : ∃ r, tocsinref04_twice l = some r ∧ (r = true ↔ ¬ Once l) := by
  refine ⟨(List.range l.length).any fun i => (l[i]?).any fun x => (l.take i).any fun y => (x.f0.toList == y.f0.toList), ?_, ?_⟩
  · unfold tocsinref04_twice
    have hin : ∀ i : Nat, ∀ (hi : i < l.length), loopO (tocsinref04_twice_l50 l[i] (l.take i)) 0 = some (bif (l.take i).any fun y => (l[i].f0.toList == y.f0.toList) then .inr (.inr (.inr true)) else .inl ()) := by
      intro i hi
      rw [up_any (n := (l.take i).length) (fun j => ((l.take i)[j]?).any fun y => (l[i].f0.toList == y.f0.toList)) (.inr (.inr true)) (fun j hj => ?_) ?_, any_range]
      · unfold tocsinref04_twice_l50
        rw [show decide (((l.take i).length : Int) < ((l.take i).length : Int)) = false from decide_eq_false (by omega)]; rfl
      · have hj' : j < i := by rw [List.length_take] at hj; omega
        unfold tocsinref04_twice_l50
        rw [show decide ((j : Int) < ((l.take i).length : Int)) = true from decide_eq_true (by omega)]
        simp only [cond_true, ix_nat, List.getElem?_eq_getElem hj, Option.bind_some, wrap_up (show j < 4294967296 by omega), Option.any_some]
        cases (l[i].f0.toList == (l.take i)[j].f0.toList) <;> rfl
    rw [up_any (n := l.length) (fun i => (l[i]?).any fun x => (l.take i).any fun y => (x.f0.toList == y.f0.toList)) true (fun i hi => ?_) ?_]
    · simp only [Option.bind_some]
      cases ((List.range l.length).any fun i => (l[i]?).any fun x => (l.take i).any fun y => (x.f0.toList == y.f0.toList)) <;> rfl
    · unfold tocsinref04_twice_l17
      rw [show decide ((l.length : Int) < (l.length : Int)) = false from decide_eq_false (by omega)]; rfl
    · unfold tocsinref04_twice_l17
      rw [show decide ((i : Int) < (l.length : Int)) = true from decide_eq_true (by omega)]
      have hlx : lx l 0 (i : Int) = some (l.take i) := by unfold lx; rw [if_pos (by omega)]; simp
      simp only [cond_true, ix_nat, List.getElem?_eq_getElem hi, Option.bind_some, hlx, hin i hi, wrap_up (show i < 4294967296 by omega), Option.any_some]
      cases ((l.take i).any fun y => (l[i].f0.toList == y.f0.toList)) <;> rfl
  · rw [Once.pairwise, List.any_eq_true]
    constructor
    · rintro ⟨i, hi, hb⟩ hp
      have hi' := List.mem_range.1 hi
      rw [List.getElem?_eq_getElem hi', Option.any_some] at hb
      obtain ⟨y, hy, hyb⟩ := List.any_eq_true.1 hb
      obtain ⟨j, hj, rfl⟩ := List.getElem_of_mem hy
      rw [List.length_take] at hj
      rw [List.getElem_take] at hyb
      exact List.pairwise_iff_getElem.1 hp j i (by omega) hi' (by omega) (toList_inj.1 hyb).symm
    · intro hp
      apply Classical.byContradiction
      intro hn
      apply hp
      rw [List.pairwise_iff_getElem]
      intro i j hi hj hij e
      refine hn ⟨j, List.mem_range.2 hj, ?_⟩
      rw [List.getElem?_eq_getElem hj, Option.any_some]
      refine List.any_eq_true.2 ⟨l[i], ?_, toList_inj.2 e.symm⟩
      exact List.mem_take_iff_getElem.2 ⟨i, by omega, rfl⟩
theorem full_eq (l : List LB) (hl : l.length < 2147483648) : tocsinref04_full l = some (l.filter hasV) := by
  unfold tocsinref04_full
  rw [filter_up l hasV id (by omega) (fun acc i hi ha => ?_) (fun acc => ?_)]
  · rfl
  · unfold tocsinref04_full_l28
    rw [show decide ((i : Int) < (l.length : Int)) = true from decide_eq_true (by omega)]
    simp only [cond_true, ix_nat, List.getElem?_eq_getElem hi, Option.bind_some, wrap_up (show i < 4294967296 by omega)]
    rw [show (!(l[i].f1.toList == (⟨#[]⟩ : ByteArray).toList)) = hasV l[i] from rfl, app_eq (by simp; omega)]
    cases hasV l[i] <;> rfl
  · unfold tocsinref04_full_l28
    rw [show decide ((l.length : Int) < (l.length : Int)) = false from decide_eq_false (by omega)]; rfl
theorem sts_filter {p : LB → Bool} {l z : List LB} (h : StS ltN l z) : StS ltN (l.filter p) (z.filter p) := by
  refine ⟨fun k => ?_, h.2.filter p⟩
  rw [List.filter_filter, List.filter_filter]
  have := congrArg (List.filter p) (h.1 k)
  rw [List.filter_filter, List.filter_filter] at this
  simpa [Bool.and_comm] using this
theorem right_eq (l : List LB) : labels_right l = some (rightE l).1 := by unfold labels_right; rw [Right_eq]; rfl
/-- The labels whose names are, are not, among some. -/
def hasB (names : List ByteArray) (s : ByteArray) : Bool := names.any fun x => (x.toList == s.toList)
theorem has_eq (names : List ByteArray) (s : ByteArray) (hn : names.length < 2147483648) : tocsinref04_has names s = some (hasB names s) := by
  unfold tocsinref04_has hasB
  rw [up_any (n := names.length) (fun j => (names[j]?).any fun y => (y.toList == s.toList)) true (fun j hj => ?_) ?_, any_range]
  · simp only [Option.bind_some]
    cases names.any fun x => (x.toList == s.toList) <;> rfl
  · unfold tocsinref04_has_l17
    rw [show decide ((names.length : Int) < (names.length : Int)) = false from decide_eq_false (by omega)]; rfl
  · unfold tocsinref04_has_l17
    rw [show decide ((j : Int) < (names.length : Int)) = true from decide_eq_true (by omega)]
    simp only [cond_true, ix_nat, List.getElem?_eq_getElem hj, Option.bind_some, wrap_up (show j < 4294967296 by omega), Option.any_some]
    cases (names[j].toList == s.toList) <;> rfl
theorem Contains_eq (names : List ByteArray) (s : ByteArray) (hn : names.length < 2147483648) : slices_Contains names s = some (hasB names s) := by
  unfold slices_Contains slices_Index hasB
  rw [up_find (n := names.length) (fun j => match names[j]? with | some y => if (s.toList == y.toList) = true then some (j : Int) else none | none => none) (fun j hj => ?_) ?_]
  · simp only [Option.bind_some]
    cases hf : (List.range names.length).findSome? (fun j => match names[j]? with | some y => if (s.toList == y.toList) = true then some (j : Int) else none | none => none) with
    | none =>
      rw [List.findSome?_eq_none_iff] at hf
      rw [show (names.any fun x => (x.toList == s.toList)) = false from by
        rw [List.any_eq_false]
        intro x hx
        obtain ⟨j, hj, rfl⟩ := List.getElem_of_mem hx
        have := hf j (List.mem_range.2 hj)
        rw [List.getElem?_eq_getElem hj] at this
        simp only at this
        split at this
        · cases this
        · rename_i h; intro e; exact h (toList_inj.2 (toList_inj.1 e).symm)]
      rfl
    | some b =>
      obtain ⟨j, hj, hjb⟩ := List.exists_of_findSome?_eq_some hf
      have hj' := List.mem_range.1 hj
      rw [List.getElem?_eq_getElem hj'] at hjb
      simp only at hjb
      split at hjb <;> try (cases hjb; done)
      rename_i h
      simp only [Option.some.injEq] at hjb
      subst hjb
      rw [show (names.any fun x => (x.toList == s.toList)) = true from List.any_eq_true.2 ⟨names[j], List.getElem_mem hj', toList_inj.2 (toList_inj.1 h).symm⟩]
      simp
  · unfold slices_Index_l17
    rw [show decide ((names.length : Int) < (names.length : Int)) = false from decide_eq_false (by omega)]; rfl
  · unfold slices_Index_l17
    rw [show decide ((j : Int) < (names.length : Int)) = true from decide_eq_true (by omega)]
    simp only [cond_true, ix_nat, List.getElem?_eq_getElem hj, Option.bind_some, wrap_up (show j < 4294967296 by omega)]
    cases (s.toList == names[j].toList) <;> rfl
theorem pick_eq (l : List LB) (b : Bool) (names : List ByteArray) (hl : l.length < 2147483648) (hn : names.length < 2147483648) : labels_pick l b names = some (l.filter fun x => (hasB names x.f0 == b)) := by
  unfold labels_pick
  rw [filter_up l (fun x => (hasB names x.f0 == b)) id (by omega) (fun acc i hi ha => ?_) (fun acc => ?_)]
  · rfl
  · unfold labels_pick_l28
    rw [show decide ((i : Int) < (l.length : Int)) = true from decide_eq_true (by omega)]
    simp only [cond_true, ix_nat, List.getElem?_eq_getElem hi, Option.bind_some, wrap_up (show i < 4294967296 by omega), Contains_eq names _ hn]
    rw [app_eq (by simp; omega)]
    cases (hasB names l[i].f0 == b) <;> rfl
  · unfold labels_pick_l28
    rw [show decide ((l.length : Int) < (l.length : Int)) = false from decide_eq_false (by omega)]; rfl
theorem refPick_eq (l : List LB) (b : Bool) (names : List ByteArray) (hl : l.length < 2147483648) (hn : names.length < 2147483648) : tocsinref04_Pick l names b = some (l.filter fun x => (hasB names x.f0 == b)) := by
  unfold tocsinref04_Pick
  rw [filter_up l (fun x => (hasB names x.f0 == b)) id (by omega) (fun acc i hi ha => ?_) (fun acc => ?_)]
  · rfl
  · unfold tocsinref04_Pick_l28
    rw [show decide ((i : Int) < (l.length : Int)) = true from decide_eq_true (by omega)]
    simp only [cond_true, ix_nat, List.getElem?_eq_getElem hi, Option.bind_some, wrap_up (show i < 4294967296 by omega), has_eq names _ hn]
    rw [app_eq (by simp; omega)]
    cases (hasB names l[i].f0 == b) <;> rfl
  · unfold tocsinref04_Pick_l28
    rw [show decide ((l.length : Int) < (l.length : Int)) = false from decide_eq_false (by omega)]; rfl
end Go.Proofs.YtnlkfajnaelnnaaGreatDoor

/- Plain laws of chapter 4: With, Get; what is spoilt. -/
set_option linter.unusedVariables false
set_option linter.unusedSimpArgs false
set_option maxRecDepth 100000
namespace Go.Proofs.YtnlkfajnaelnnaaGreatDoor
open Go.GB Go.Lib
theorem right_rising {l : List LB} (h : (rightE l).1 = 0) : l.Pairwise fun x y => ltN x y = true := by
  obtain ⟨h1, h2⟩ := right_none h
  rw [List.pairwise_iff_getElem]
  intro i j hi hj hij
  have step : ∀ k, ∀ (hk : k + 1 < l.length), ltN (l[k]'(by omega)) l[k + 1] = true := by
    intro k hk
    have h3 := h2 (k + 1) hk
    unfold faultAt at h3
    rw [List.getElem?_eq_getElem hk] at h3
    simp only at h3
    split at h3
    · cases h3
    · rw [if_neg (by omega), Nat.add_sub_cancel, List.getElem?_eq_getElem (by omega)] at h3
      simp only at h3
      split at h3
      · rename_i hc; rw [ltN_eq]; exact decide_eq_true hc
      · cases h3
  have key : ∀ d, ∀ (hd : i + 1 + d < l.length), ltN l[i] l[i + 1 + d] = true := by
    intro d
    induction d with
    | zero => intro hd; exact step i (by omega)
    | succ d ih =>
      intro hd
      have a := ih (by omega)
      have b := step (i + 1 + d) (by omega)
      rw [ltN_eq] at a b ⊢
      exact decide_eq_true (cmpS_trans (of_decide_eq_true a) (of_decide_eq_true b))
  have := key (j - (i + 1)) (by omega)
  rw [show l[j] = l[i + 1 + (j - (i + 1))] from by congr 1; omega]
  exact this
theorem right_sorted {l : List LB} (h : (rightE l).1 = 0) : Sorted ltN l := (right_rising h).imp fun hab => swoN.asymm _ _ hab
theorem right_hasV {l : List LB} (h : (rightE l).1 = 0) : ∀ x ∈ l, hasV x = true := fun x hx => by
  have := (one_parts ((right_parts h).2 x hx)).2.1
  unfold hasV
  rw [nil_size]
  simp [this]
theorem filter_all {α : Type} {p : α → Bool} {l : List α} (h : ∀ x ∈ l, p x = true) : l.filter p = l := List.filter_eq_self.2 h
def getE (l : List LB) (n : ByteArray) : ByteArray := ((l.find? fun x => (x.f0.toList == n.toList)).map fun x => x.f1).getD ⟨#[]⟩
theorem find_some {α β : Type} (l : List α) (p : α → Bool) (f : α → β) : (List.range l.length).findSome? (fun i => (l[i]?).bind fun x => if p x = true then some (f x) else none) = (l.find? p).map f := by
  induction l with
  | nil => rfl
  | cons x l ih =>
    rw [List.length_cons, List.range_succ_eq_map, List.findSome?_cons]
    simp only [List.getElem?_cons_zero, Option.bind_some]
    by_cases h : p x = true
    · rw [if_pos h, List.find?_cons_of_pos h]; rfl
    · rw [if_neg h, List.find?_cons_of_neg h]
      simp only
      rw [List.findSome?_map, ← ih]
      congr 1
theorem Get_eq (l : List LB) (n : ByteArray) (hl : l.length < 2147483648) : labels_Get l n = some (getE l n) := by
  unfold labels_Get
  rw [up_find (n := l.length) (fun i => (l[i]?).bind fun x => if (x.f0.toList == n.toList) = true then some x.f1 else none) (fun i hi => ?_) ?_, find_some l (fun x => (x.f0.toList == n.toList)) (fun x => x.f1)]
  · unfold getE
    cases l.find? fun x => (x.f0.toList == n.toList) <;> rfl
  · unfold labels_Get_l17
    rw [show decide ((l.length : Int) < (l.length : Int)) = false from decide_eq_false (by omega)]; rfl
  · unfold labels_Get_l17
    rw [show decide ((i : Int) < (l.length : Int)) = true from decide_eq_true (by omega)]
    simp only [cond_true, ix_nat, List.getElem?_eq_getElem hi, Option.bind_some, wrap_up (show i < 4294967296 by omega)]
    cases (l[i].f0.toList == n.toList) <;> rfl
theorem refGet_is : tocsinref04_Get = labels_Get := rfl
end Go.Proofs.YtnlkfajnaelnnaaGreatDoor

/- Plain laws: what is made of the labels that are read; what was printed and read is the set that it was. -/
set_option linter.unusedVariables false
set_option linter.unusedSimpArgs false
set_option maxRecDepth 100000
namespace Go.Proofs.YtnlkfajnaelnnaaGreatDoor
open Go.GB Go.Lib
noncomputable def restL (l : List LB) : List LB := l.filter fun x => (hasB [metricT] x.f0 == false)
/-- what is answered of the labels that were read -/
noncomputable def madeE (w : List LB) : List LB × Int × Int := bif (rightE w).1 != 0 then ([], (rightE w).1, (rightE w).2) else (w, 0, 0)
theorem sts_right {l m w : List LB} (h : (rightE l).1 = 0) (hf : FE ltN m l) (hw : StS ltN (m.filter hasV) w) : w = l := by
  have h1 : StS ltN l l := ⟨FE.refl l, right_sorted h⟩
  refine StS.uniq swoN hw ?_
  have hl : l.filter hasV = l := filter_all (right_hasV h)
  have h2 : StS ltN m l := ⟨hf.symm, right_sorted h⟩
  have := sts_filter (p := hasV) h2
  rwa [hl] at this
theorem made_right {l : List LB} (h : (rightE l).1 = 0) : madeE l = (l, 0, 0) := by unfold madeE; rw [h]; rfl
/-- the text of a label set -/
noncomputable def textL (l : List LB) : List UInt8 := if namedB (getE l metricT) 256 true = true then printT (some (getE l metricT)) (restL l) else printT none l
/-! ### how long it is -/
theorem qBody_len (v : List UInt8) : (qBody v).length ≤ 2 * v.length := by
  have h1 := RQ.q_len v
  have h2 := List.countP_le_length (p := RQ.spec) (l := v)
  omega
theorem itemT_len {x : LB} (h : oneE x = 0) : (itemT x).length ≤ 600 := by
  obtain ⟨h1, h2, h3, _⟩ := one_parts h
  have h4 := (named_valid h1).1
  have h5 := qBody_len (tl x.f1)
  rw [tl_len] at h5
  simp only [itemT, List.length_append, List.length_cons, tl_len, List.length_nil]
  omega
theorem bodyT_max : ∀ {l : List LB}, (∀ x ∈ l, oneE x = 0) → (bodyT l).length ≤ 601 * l.length
  | [], _ => by simp [bodyT]
  | [x], h => by have := itemT_len (h x (by simp)); simp [bodyT]; omega
  | x :: y :: r, h => by
    have h1 := itemT_len (h x (by simp))
    have h2 := bodyT_max (l := y :: r) (fun z hz => h z (List.mem_cons_of_mem _ hz))
    rw [bodyT]
    simp only [List.length_append, List.length_cons] at h2 ⊢
    omega
end Go.Proofs.YtnlkfajnaelnnaaGreatDoor

/- Plain laws of chapter 4: what is lent and kept; what is spoilt. -/
set_option linter.unusedVariables false
set_option linter.unusedSimpArgs false
set_option maxRecDepth 100000
namespace Go.Proofs.YtnlkfajnaelnnaaGreatDoor
open Go.GB Go.Lib
def behind : LB := ⟨(⟨#[98, 101, 104, 105, 110, 100]⟩ : ByteArray), (⟨#[119, 104, 97, 116, 32, 119, 97, 115, 32, 104, 97, 110, 100, 101, 100, 32, 105, 110]⟩ : ByteArray)⟩
theorem Lent_eq (l : List LB) (hl : l.length < 2147483648) : tocsinlaw04_Lent l = some (l, l ++ [behind]) := by
  unfold tocsinlaw04_Lent
  rw [app_eq (by simp; omega)]
  simp only [Option.bind_some, List.nil_append]
  rw [app_eq (by simp; omega)]
  simp only [Option.bind_some]
  unfold lx
  rw [if_pos (by simp; omega)]
  simp [behind]
theorem Kept_eq (l : List LB) (hl : l.length < 2147483648) : tocsinlaw04_Kept (l, l ++ [behind]) l = some true := by
  unfold tocsinlaw04_Kept
  simp only [same_self l (by omega), Option.bind_some, cond_true]
  unfold lx
  rw [wrap_up (by omega), if_pos (by simp; omega)]
  simp only [Option.bind_some]
  rw [show ((l ++ [behind]).take (((l.length + 1 : Nat) : Int)).toNat).drop (0 : Int).toNat = l ++ [behind] by
    rw [Int.toNat_natCast, Int.toNat_zero, List.drop_zero, List.take_of_length_le (by simp)]]
  rw [ix_at (A := l) (B := []) (x := behind) rfl rfl]
  simp only [Option.bind_some, behind, beq_self_eq_true]
theorem refMetric_eq (s : ByteArray) : tocsinref04_Metric s = some (namedB s 256 true) := by
  unfold tocsinref04_Metric namedB
  rw [nil_size]
  by_cases h0 : s.size = 0
  · simp [h0]
  · by_cases h1 : s.size ≤ 256
    · have e1 : decide ((s.size : Int) > 256) = false := decide_eq_false (by omega)
      simp only [h0, decide_false, e1, Bool.or_self, cond_false, not_false_eq_true, ne_eq, decide_true, h1, Bool.true_and]
      have hc : ∀ c : Int, (c == 58) = true → labels_digit c = false := fun c h => by
        rw [beq_iff_eq] at h; subst h; rfl
      have hq : (!labels_digit ((bat s 0 : Nat) : Int) && (List.range s.size).all fun i => labels_letter (bat s i) || (labels_digit (bat s i) || (((bat s i : Nat) : Int) == 58))) = (List.range s.size).all fun i => labels_letter (bat s i) || (((bat s i : Nat) : Int) == 58 || (decide (i ≠ 0) && labels_digit (bat s i))) := by
        rw [Bool.eq_iff_iff, Bool.and_eq_true, List.all_eq_true, List.all_eq_true]
        constructor
        · rintro ⟨h2, h3⟩ i hi
          have := h3 i hi
          by_cases hi0 : i = 0
          · subst hi0
            simp only [Bool.not_eq_true'] at h2
            simpa [h2] using this
          · simp only [Bool.or_eq_true] at this
            rcases this with h | h | h <;> simp [h, hi0]
        · intro h3
          refine ⟨?_, fun i hi => ?_⟩
          · have := h3 0 (List.mem_range.2 (by omega))
            simp only [ne_eq, not_true_eq_false, decide_false, Bool.false_and, Bool.or_false, Bool.or_eq_true] at this
            rcases this with h | h
            · rw [let_not_dig _ h]; rfl
            · rw [hc _ h]; rfl
          · have := h3 i hi
            simp only [Bool.or_eq_true, Bool.and_eq_true] at this ⊢
            rcases this with h | h | h
            · exact .inl h
            · exact .inr (.inr h)
            · exact .inr (.inl h.2)
      rw [hq, up_all (n := s.size) (fun i => labels_letter (bat s i) || (((bat s i : Nat) : Int) == 58 || (decide (i ≠ 0) && labels_digit (bat s i)))) (fun i hi => ?_) ?_]
      · simp only [Option.bind_some]
        cases (List.range s.size).all fun i => labels_letter (bat s i) || (((bat s i : Nat) : Int) == 58 || (decide (i ≠ 0) && labels_digit (bat s i))) <;> rfl
      · unfold tocsinref04_Metric_l24
        rw [show decide ((s.size : Int) < (s.size : Int)) = false from decide_eq_false (by omega)]
        rfl
      · unfold tocsinref04_Metric_l24
        rw [show decide ((i : Int) < (s.size : Int)) = true from decide_eq_true (by omega)]
        have el : ∀ c, tocsinref04_letter c = labels_letter c := fun _ => rfl
        have ed : ∀ c, tocsinref04_digit c = labels_digit c := fun _ => rfl
        simp only [cond_true, bx_bat hi, Option.bind_some, wrap_up (show i < 4294967296 by omega), el, ed]
        by_cases hi0 : i = 0
        · subst hi0
          cases labels_letter ((bat s 0 : Nat) : Int) <;> cases h58 : (((bat s 0 : Nat) : Int) == 58) <;> simp [bne, h58]
        · have e2 : ((i : Int) == 0) = false := by rw [beq_eq_false_iff_ne]; omega
          simp only [e2, hi0, cond_false]
          cases labels_letter ((bat s i : Nat) : Int) <;> cases h58 : (((bat s i : Nat) : Int) == 58) <;> cases labels_digit ((bat s i : Nat) : Int) <;> simp [bne, h58, hi0]
    · have e1 : decide ((s.size : Int) > 256) = true := decide_eq_true (by omega)
      simp only [e1, h1, Bool.or_true, cond_true, decide_false, Bool.false_and, Bool.and_false]
theorem Metric_eq (s : ByteArray) : labels_Metric s = some (namedB s 256 true) := by
  unfold labels_Metric
  rw [show (256 : Int) = ((256 : Nat) : Int) from rfl, named_eq s (by omega) true]
  rfl
end Go.Proofs.YtnlkfajnaelnnaaGreatDoor

set_option linter.unusedVariables false
set_option linter.unusedSimpArgs false
set_option maxRecDepth 100000
namespace Go.Proofs.YtnlkfajnaelnnaaGreatDoor
open Go.GB Go.Lib
theorem setL_in {s : ByteArray} {i p : Nat} (hi : i ≤ s.size) (h : setL (s.size + 1) s i [] = .inl p) : p ≤ s.size := setL_inl _ _ _ hi h
theorem tailT_braces {s : ByteArray} {i : Nat} {l : List S49} (hs : s.size < 2147483600) (hi : i ≤ s.size) (hl : l.length ≤ 1) :
    (Option.bind (Option.bind (tocsinref04_Text_set ⟨s, (i : Int), 0⟩) fun (y67 : (List S49) × S97) =>
        Option.bind (app l y67.1) fun (zs76 : List S49) =>
        some (zs76, y67.2.f0, y67.2.f1, y67.2.f2)) (tailT s)) = answT (bracesL s i l) := by
  have h1 := tset_on (i := i) (show s.size < 2147483640 by omega) hi
  unfold bracesL
  cases hv : setL (s.size + 1) s i [] with
  | inl p =>
    rw [hv] at h1
    obtain ⟨m, j, h2, h3, h4⟩ := h1
    have hp := setL_in hi hv
    simp only [h4, Option.bind_some, app_eq (show l.length + m.length ≤ 2147483648 by omega), tailT_off (show s.size < 4294967296 by omega) h3 (show p < 4294967296 by omega)]
    rfl
  | inr v =>
    rw [hv] at h1
    obtain ⟨h2, h3, h4⟩ := h1
    simp only [h4, Option.bind_some, app_eq (show l.length + v.1.length ≤ 2147483648 by omega), tailT_on (show s.size < 4294967296 by omega) h3]
theorem runN_stop {l : List UInt8} {c : Bool} {i : Nat} (h : namN c (gB l i) = false) : runN l c i = i := by
  unfold runN
  rcases Nat.lt_or_ge i l.length with h1 | h1
  · rw [runL_step h1, h]; simp
  · rw [runL_out h1]; omega
theorem named_empty {s : ByteArray} {a : Nat} {m : Nat} {c : Bool} : namedB (s.extract a a) m c = false := by
  unfold namedB
  have : (s.extract a a).size = 0 := by rw [← tl_len, tl_extract, Nat.sub_self, List.take_zero]; rfl
  rw [this]; rfl
theorem fin_blk (s : ByteArray) (i : Nat) (l : List S49) : finL s (blk (tl s) i) l = finL s i l := by unfold finL; rw [blk_blk]
theorem tParse_read {s : ByteArray} (hs : s.size ≤ 65536) : tocsinref04_Parse s = answT (parseL s) := by
  have hs4 : s.size < 4294967296 := by omega
  have b0 := tBlanks (s := s) (b := 0) (i := 0) hs4 (by omega)
  rw [show ((0 : Nat) : Int) = 0 from rfl] at b0
  have hb := blk_le (l := tl s) (i := 0) (by omega)
  rw [tl_len] at hb
  have hr := runN_le (l := tl s) (c := true) (i := blk (tl s) 0) (by rw [tl_len]; exact hb.2)
  rw [tl_len] at hr
  have hb2 := blk_le (l := tl s) (i := runN (tl s) true (blk (tl s) 0)) (by rw [tl_len]; exact hr.2)
  rw [tl_len] at hb2
  have r1 := tRun (b := 0) (col := true) hs4 hb.2
  rw [blk_blk] at r1
  have i1 := fun b : Int => tIs (b := b) (c := 123) hs4 hr.2 (by omega)
  rw [show ((123 : Nat) : Int) = 123 from rfl] at i1
  unfold tocsinref04_Parse parseL
  rw [show decide ((s.size : Int) > 65536) = false from decide_eq_false (by omega)]
  simp only [cond_false, b0, Option.bind_some, r1, empty_run hr.1 hr.2]
  by_cases h1 : gB (tl s) (blk (tl s) 0) = 123
  · have h2 := gB_in (l := tl s) (i := blk (tl s) 0) (by omega)
    rw [tl_len] at h2
    have hst : runN (tl s) true (blk (tl s) 0) = blk (tl s) 0 := runN_stop (by rw [h1]; exact namN_123)
    rw [if_pos h1]
    rw [hst] at i1
    have i2 := i1 0
    rw [blk_blk, if_pos h1] at i2
    simp only [hst, decide_true, Bool.not_true, cond_false, Option.bind_some, i2, cond_true]
    exact tailT_braces (l := []) (by omega) (by omega) (by simp)
  · rw [if_neg h1]
    by_cases h2 : blk (tl s) 0 = runN (tl s) true (blk (tl s) 0)
    · have i2 := i1 0
      rw [← h2, blk_blk, if_neg h1] at i2
      rw [← h2, named_empty, if_neg (by simp)]
      simp only [decide_true, Bool.not_true, cond_false, Option.bind_some, i2, cond_true, tFail_on (show blk (tl s) 0 < 4294967296 by omega)]
      exact tailT_off hs4 hb.2 (by omega)
    · have a1 : app ([] : List S49) [(⟨metricT, s.extract (blk (tl s) 0) (runN (tl s) true (blk (tl s) 0))⟩ : S49)] = some [⟨metricT, s.extract (blk (tl s) 0) (runN (tl s) true (blk (tl s) 0))⟩] := app_eq (by simp)
      unfold metricT at a1
      by_cases h3 : namedB (s.extract (blk (tl s) 0) (runN (tl s) true (blk (tl s) 0))) 256 true = true
      · rw [if_pos h3]
        have i2 := i1 0
        by_cases h4 : gB (tl s) (blk (tl s) (runN (tl s) true (blk (tl s) 0))) = 123
        · have h5 := gB_in (l := tl s) (i := blk (tl s) (runN (tl s) true (blk (tl s) 0))) (by omega)
          rw [tl_len] at h5
          rw [if_pos h4]
          rw [if_pos h4] at i2
          simp only [h2, decide_false, Bool.not_false, cond_true, refMetric_eq, Option.bind_some, h3, Bool.not_true, cond_false, a1, i2]
          exact tailT_braces (l := [⟨metricT, s.extract (blk (tl s) 0) (runN (tl s) true (blk (tl s) 0))⟩]) (by omega) (by omega) (by simp)
        · rw [if_neg h4]
          rw [if_neg h4] at i2
          simp only [h2, decide_false, Bool.not_false, cond_true, refMetric_eq, Option.bind_some, h3, Bool.not_true, cond_false, a1, i2]
          rw [← fin_blk]
          exact tailT_on hs4 hb2.2
      · rw [if_neg h3]
        have h3' : namedB (s.extract (blk (tl s) 0) (runN (tl s) true (blk (tl s) 0))) 256 true = false := by simpa using h3
        have i2 := i1 (((blk (tl s) 0 + 1 : Nat) : Int))
        simp only [h2, decide_false, Bool.not_false, cond_true, refMetric_eq, Option.bind_some, h3', a1, tFail_on (show blk (tl s) 0 < 4294967296 by omega), i2]
        by_cases h4 : gB (tl s) (blk (tl s) (runN (tl s) true (blk (tl s) 0))) = 123
        · have h5 := gB_in (l := tl s) (i := blk (tl s) (runN (tl s) true (blk (tl s) 0))) (by omega)
          rw [tl_len] at h5
          rw [if_pos h4]
          simp only [cond_true, tset_off, Option.bind_some, app_eq (show [(⟨⟨#[95, 95, 110, 97, 109, 101, 95, 95]⟩, s.extract (blk (tl s) 0) (runN (tl s) true (blk (tl s) 0))⟩ : S49)].length + ([] : List S49).length ≤ 2147483648 by simp)]
          exact tailT_off hs4 (by omega) (by omega)
        · rw [if_neg h4]
          simp only [cond_false, Option.bind_some]
          exact tailT_off hs4 hb2.2 (by omega)
/-! ### how many labels -/
theorem setL_len {s : ByteArray} : ∀ (f i : Nat) (acc : List S49) {v : List S49 × Nat}, i ≤ s.size → acc.length ≤ i → setL f s i acc = .inr v → v.1.length ≤ s.size
  | 0, i, acc, v, hi, ha, h => by rw [setL] at h; cases h
  | f + 1, i, acc, v, hi, ha, h => by
    have hb := blk_le (l := tl s) (i := i) (by rw [tl_len]; exact hi)
    rw [tl_len] at hb
    rw [setL] at h
    split at h
    · cases h; simp only; omega
    · split at h
      · cases h
      · rename_i x q hq
        have hp := itemP_le hb.2 hq
        have hb4 := blk_le (l := tl s) (i := q) (by rw [tl_len]; exact hp.2)
        rw [tl_len] at hb4
        split at h
        · rename_i h7
          have h8 := gB_in (l := tl s) (i := blk (tl s) q) (by omega)
          rw [tl_len] at h8
          exact setL_len f _ _ h8 (by simp; omega) h
        · split at h
          · cases h; simp; omega
          · cases h
theorem fin_len {s : ByteArray} {p : Nat} {l m : List S49} (h : finL s p l = .inr m) : m = l := by
  unfold finL at h
  split at h <;> cases h
  rfl
theorem braces_len {s : ByteArray} {i : Nat} {l m : List S49} (hi : i ≤ s.size) (h : bracesL s i l = .inr m) : m.length ≤ l.length + s.size := by
  unfold bracesL at h
  split at h
  · cases h
  · rename_i x p hx
    have := setL_len _ _ _ hi (by simp) hx
    rw [fin_len h, List.length_append]
    simp only at this; omega
theorem parseL_len {s : ByteArray} {m : List S49} (h : parseL s = .inr m) : m.length ≤ s.size + 1 := by
  have hb := blk_le (l := tl s) (i := 0) (by omega)
  rw [tl_len] at hb
  unfold parseL at h
  split at h
  · rename_i h1
    have h2 := gB_in (l := tl s) (i := blk (tl s) 0) (by omega)
    rw [tl_len] at h2
    have := braces_len h2 h
    simp at this; omega
  · split at h
    · split at h
      · rename_i h1
        have h2 := gB_in (l := tl s) (i := blk (tl s) (runN (tl s) true (blk (tl s) 0))) (by omega)
        rw [tl_len] at h2
        have := braces_len h2 h
        simp at this; omega
      · rw [fin_len h]; simp
    · cases h
/-- what is made of the labels: on both sides the same. -/
theorem after_both {m : List S49} (hm : m.length < 2147483648) : ∃ r, afterP m = some r ∧ afterT m = some r ∧ (¬ Once m → r = ([], 6, 0)) ∧ (Once m → ∃ w, StS ltN (m.filter hasV) w ∧ r = madeE w) := by
  obtain ⟨z, h1, h2⟩ := sorted_eq m hm
  obtain ⟨t, h3, h4⟩ := twice_eq m hm
  obtain ⟨w, h5, h6⟩ := refSorted_eq (m.filter hasV) (Nat.lt_of_le_of_lt (List.length_filter_le _ _) hm)
  have hw : z.filter hasV = w := StS.uniq swoN (sts_filter h2) h6
  have ht : adjB z z.length = t := by
    rw [Bool.eq_iff_iff, adjB_once h2.2, h4, Once.fe h2.1]
  unfold afterP afterT
  rw [h1, h3, full_eq m hm]
  simp only [Option.bind_some, h5, hw, ht, Right_eq, refRight_eq]
  cases t with
  | true => exact ⟨_, rfl, rfl, fun _ => rfl, fun h => absurd h (h4.1 rfl)⟩
  | false =>
    refine ⟨madeE w, ?_, ?_, fun h => (by have := h4.2 h; cases this), fun _ => ⟨w, h6, rfl⟩⟩ <;>
    · simp only [cond_false, madeE]
      cases (rightE w).1 != 0 <;> rfl
theorem madeE_len {w : List S49} : (madeE w).1.length ≤ w.length := by
  unfold madeE
  cases (rightE w).1 != 0 <;> simp
/-- Parse: on both sides the same. -/
theorem Parse_both (s : ByteArray) : ∃ r, labels_Parse s = some r ∧ tocsinref04_Parse s = some r ∧ r.1.length < 2147483600 ∧
    ∀ {m : List S49} {l : List S49}, s.size ≤ 65536 → parseL s = .inr m → Once m → FE ltN m l → (rightE l).1 = 0 → r = (l, 0, 0) := by
  by_cases hs : s.size ≤ 65536
  · rw [Parse_read hs Metric_eq, tParse_read hs]
    cases hv : parseL s with
    | inl p => exact ⟨([], 3, (p : Int)), rfl, rfl, by simp, fun _ h => by cases h⟩
    | inr m =>
      have hl := parseL_len hv
      obtain ⟨r, h1, h2, h3, h4⟩ := after_both (m := m) (by omega)
      refine ⟨r, h1, h2, ?_, ?_⟩
      · by_cases ho : Once m
        · obtain ⟨w, hw, rfl⟩ := h4 ho
          have e1 : w.length = (m.filter hasV).length := FE.length swoN _ rfl hw.1.symm
          have e2 := List.length_filter_le hasV m
          have e3 := madeE_len (w := w)
          omega
        · rw [h3 ho]; simp
      · intro m' l _ e ho hf hr
        cases e
        obtain ⟨w, hw, rfl⟩ := h4 ho
        rw [sts_right hr hf hw, made_right hr]
  · refine ⟨([], 4, 0), ?_, ?_, by simp, fun h => absurd h hs⟩
    · unfold labels_Parse
      rw [show decide ((s.size : Int) > 65536) = true from decide_eq_true (by omega)]; rfl
    · unfold tocsinref04_Parse
      rw [show decide ((s.size : Int) > 65536) = true from decide_eq_true (by omega)]; rfl
end Go.Proofs.YtnlkfajnaelnnaaGreatDoor
