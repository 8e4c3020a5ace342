/- Plain laws, base: words of bits; numbers in few bytes. -/
import Derived.Test.YtnlkfajnaelnnaaGreatDoorGB8k
import Derived.Test.YtnlkfajnaelnnaaGreatDoorGB30k
import Derived.Lib.Bytealg
/- Functions that can be run out: twins with a bound on rounds. -/
set_option linter.unusedVariables false
set_option linter.unusedSimpArgs false
namespace Go.GB
def loopF {σ ρ : Type} : Nat → (σ → Option (σ ⊕ ρ)) → σ → Option ρ
  | 0, _, _ => none
  | n + 1, body, s => match body s with
    | none => none
    | some (.inr r) => some r
    | some (.inl s') => loopF n body s'
def OLe {α : Type} (x y : Option α) : Prop := ∀ r, x = some r → y = some r
theorem OLe.refl {α : Type} (x : Option α) : OLe x x := fun _ h => h
theorem OLe.bind {α β : Type} {x y : Option α} {f g : α → Option β} (h : OLe x y) (hf : ∀ a, OLe (f a) (g a)) : OLe (Option.bind x f) (Option.bind y g) := fun r hr => by
  obtain ⟨a, ha, hb⟩ := bind_some hr
  rw [h a ha]; exact hf a r hb
theorem OLe.cond {α : Type} {b : Bool} {x y x' y' : Option α} (h : OLe x x') (h' : OLe y y') : OLe (bif b then x else y) (bif b then x' else y') := by
  cases b
  · exact h'
  · exact h
theorem loopF_R {σ ρ : Type} {body body' : σ → Option (σ ⊕ ρ)} (h : ∀ s, OLe (body s) (body' s)) : ∀ (n : Nat) (s : σ) (r : ρ), loopF n body s = some r → LoopR body' s r
  | 0, _, _, hr => by cases hr
  | n + 1, s, r, hr => by
    unfold loopF at hr
    cases hb : body s with
    | none => rw [hb] at hr; cases hr
    | some o =>
      rw [hb] at hr
      cases o with
      | inl s' => exact .step (h s _ hb) (loopF_R h n s' r hr)
      | inr r' => cases hr; exact .done (h s _ hb)
theorem OLe.loop {σ ρ : Type} {body body' : σ → Option (σ ⊕ ρ)} {n : Nat} {s : σ} (h : ∀ s, OLe (body s) (body' s)) : OLe (loopF n body s) (loopO body' s) := fun r hr => loopO_of (loopF_R h n s r hr)

/-! ### Loops that go up -/
end Go.GB

/- What plain functions come to: a calculus for 'it answers, and its answer is ..'. -/
set_option linter.unusedVariables false
set_option linter.unusedSimpArgs false
namespace Go.GB
theorem wrap_up {i : Nat} (h : i < 4294967296) : IntKind.wrap .i64 ((i : Int) + 1) = ((i + 1 : Nat) : Int) := by rw [wrap64 (by omega) (by omega)]; omega
theorem ix_nat {α : Type} (xs : List α) (i : Nat) : ix xs (i : Int) = xs[i]? := by simp [ix]
theorem size_zero_iff {s : ByteArray} : (s.toList == (⟨#[]⟩ : ByteArray).toList) = decide (s.size = 0) := by
  rw [ByteArray.toList_eq, ByteArray.toList_eq]
  obtain ⟨⟨l⟩⟩ := s
  cases l <;> rfl
theorem toList_inj {a b : ByteArray} : (a.toList == b.toList) = true ↔ a = b := by
  rw [ByteArray.toList_eq, ByteArray.toList_eq]
  obtain ⟨⟨x⟩⟩ := a
  obtain ⟨⟨y⟩⟩ := b
  simp
end Go.GB

/- Plain laws, base: loops that are alike; searches; words of bits. -/
set_option linter.unusedVariables false
set_option linter.unusedSimpArgs false
namespace Go.GB
/-- One round. -/
theorem loopO_step {σ ρ : Type} {b : σ → Option (σ ⊕ ρ)} {s s' : σ} (h : b s = some (.inl s')) : loopO b s = loopO b s' := by rw [loopO_eq, h]; rfl
theorem loopO_done {σ ρ : Type} {b : σ → Option (σ ⊕ ρ)} {s : σ} {r : ρ} (h : b s = some (.inr r)) : loopO b s = some r := by rw [loopO_eq, h]; rfl
/-- A search that goes up: the first place at which there is something to tell. -/
theorem up_find {ρ : Type} {body : Int → Option (Int ⊕ (Unit ⊕ ρ))} {n : Nat} (p : Nat → Option ρ) (h : ∀ i : Nat, i < n → body i = some (match p i with | some r => .inr (.inr r) | none => .inl ((i + 1 : Nat) : Int))) (he : body n = some (.inr (.inl ()))) :
    loopO body 0 = some (match (List.range n).findSome? p with | some r => .inr r | none => .inl ()) := by
  have key : ∀ d i : Nat, i + d = n → loopO body i = some (match (List.range' i d).findSome? p with | some r => .inr r | none => .inl ()) := by
    intro d
    induction d with
    | zero =>
      intro i hi
      have : i = n := by omega
      subst this
      simp [loopO_done he]
    | succ d ih =>
      intro i hi
      have h1 := h i (by omega)
      rw [List.range'_succ, List.findSome?_cons]
      cases hp : p i with
      | some r => rw [hp] at h1; rw [loopO_done h1]
      | none => rw [hp] at h1; rw [loopO_step h1]; exact ih (i + 1) (by omega)
  have := key n 0 (by omega)
  rw [List.range_eq_range']
  exact this
/-- All of a list, by a loop that goes up. -/
theorem up_all {body : Int → Option (Int ⊕ (Unit ⊕ Bool))} {n : Nat} (q : Nat → Bool) (h : ∀ i : Nat, i < n → body i = some (bif q i then .inl ((i + 1 : Nat) : Int) else .inr (.inr false))) (he : body n = some (.inr (.inl ()))) :
    loopO body 0 = some (if (List.range n).all q then .inl () else .inr false) := by
  rw [up_find (fun i => if q i then none else some false) (fun i hi => by rw [h i hi]; cases q i <;> rfl) he]
  congr 1
  by_cases ha : (List.range n).all q = true
  · rw [if_pos ha]
    have : (List.range n).findSome? (fun i => if q i then none else some false) = none := by
      rw [List.findSome?_eq_none_iff]
      intro i hi
      rw [if_pos (List.all_eq_true.1 ha i hi)]
    rw [this]
  · rw [if_neg ha]
    have hx : (List.range n).all q = false := by simpa using ha
    rw [List.all_eq_false] at hx
    obtain ⟨i, hi, hq⟩ := hx
    cases hf : (List.range n).findSome? (fun i => if q i then none else some false) with
    | none =>
      rw [List.findSome?_eq_none_iff] at hf
      have := hf i hi
      rw [if_neg hq] at this; cases this
    | some b =>
      obtain ⟨j, _, hj⟩ := List.exists_of_findSome?_eq_some hf
      split at hj <;> cases hj
      rfl
theorem wrapU64 {x : Int} (h : 0 ≤ x) (h' : x < 18446744073709551616) : IntKind.wrap .u64 x = x := by
  unfold IntKind.wrap
  simp [IntKind.bits, IntKind.signed]
  omega
theorem and63 : ∀ c : Fin 256, bitAnd .u8 ((c.val : Nat) : Int) 63 = ((c.val % 64 : Nat) : Int) := by decide +kernel
theorem and192 : ∀ c : Fin 256, (bitAnd .u8 ((c.val : Nat) : Int) 192 != 128) = !(decide (c.val / 64 = 2)) := by decide +kernel
theorem and31 : ∀ c : Fin 256, bitAnd .i64 ((c.val : Nat) : Int) 31 = ((c.val % 32 : Nat) : Int) := by decide +kernel
theorem and15 : ∀ c : Fin 256, bitAnd .i64 ((c.val : Nat) : Int) 15 = ((c.val % 16 : Nat) : Int) := by decide +kernel
theorem and7 : ∀ c : Fin 256, bitAnd .i64 ((c.val : Nat) : Int) 7 = ((c.val % 8 : Nat) : Int) := by decide +kernel
theorem bx_at {s : ByteArray} {i : Nat} (h : i < s.size) : bx s (i : Int) = some (((s.data.toList.getD i 0).toNat : Nat) : Int) := by
  unfold bx
  rw [if_pos ⟨by omega, by omega⟩]
  unfold byteAt
  rw [Int.toNat_natCast]
  simp [List.getD_eq_getElem?_getD]
theorem size_list (s : ByteArray) : s.data.toList.length = s.size := by rw [Array.length_toList]; rfl
theorem nil_size (s : ByteArray) : (s.toList == (⟨#[]⟩ : ByteArray).toList) = decide (s.size = 0) := size_zero_iff
end Go.GB

/- Plain laws, base: the order of texts. -/
set_option linter.unusedVariables false
set_option linter.unusedSimpArgs false
namespace Go.GB
open Go.Lib
theorem cb_self : ∀ a : List UInt8, compareBytes a a = 0
  | [] => rfl
  | a :: xs => by unfold compareBytes; rw [if_neg (UInt8.lt_irrefl a), if_neg (UInt8.lt_irrefl a)]; exact cb_self xs
theorem cb_swap : ∀ a b : List UInt8, compareBytes b a = - compareBytes a b
  | [], [] => rfl
  | [], _ :: _ => rfl
  | _ :: _, [] => rfl
  | a :: xs, b :: ys => by
    unfold compareBytes
    by_cases h1 : a < b
    · have h2 : ¬ b < a := fun h => UInt8.lt_irrefl a (UInt8.lt_trans h1 h)
      rw [if_pos h1, if_neg h2, if_pos h1]; rfl
    · by_cases h2 : b < a
      · rw [if_pos h2, if_neg h1, if_pos h2]
      · rw [if_neg h2, if_neg h1, if_neg h1, if_neg h2]; exact cb_swap xs ys
theorem u8_eq {a b : UInt8} (h1 : ¬ a < b) (h2 : ¬ b < a) : a = b := UInt8.le_antisymm (UInt8.not_lt.1 h2) (UInt8.not_lt.1 h1)
theorem cb_zero : ∀ a b : List UInt8, compareBytes a b = 0 → a = b
  | [], [], _ => rfl
  | [], _ :: _, h => by simp [compareBytes] at h
  | _ :: _, [], h => by simp [compareBytes] at h
  | a :: xs, b :: ys, h => by
    unfold compareBytes at h
    by_cases h1 : a < b
    · rw [if_pos h1] at h; cases h
    · by_cases h2 : b < a
      · rw [if_neg h1, if_pos h2] at h; cases h
      · rw [if_neg h1, if_neg h2] at h
        rw [cb_zero xs ys h, u8_eq h1 h2]
theorem cb_range : ∀ a b : List UInt8, compareBytes a b = -1 ∨ compareBytes a b = 0 ∨ compareBytes a b = 1
  | [], [] => by simp [compareBytes]
  | [], _ :: _ => by simp [compareBytes]
  | _ :: _, [] => by simp [compareBytes]
  | a :: xs, b :: ys => by
    unfold compareBytes
    split
    · simp
    · split
      · simp
      · exact cb_range xs ys
theorem cb_less : ∀ a b : List UInt8, Op.bytesLess a b = decide (compareBytes a b = -1)
  | [], [] => by simp [compareBytes, Op.bytesLess]
  | [], _ :: _ => by simp [compareBytes, Op.bytesLess]
  | _ :: _, [] => by simp [compareBytes, Op.bytesLess]
  | a :: xs, b :: ys => by
    unfold compareBytes Op.bytesLess
    by_cases h1 : a < b
    · simp [h1]
    · by_cases h2 : b < a
      · have h3 : (a == b) = false := by
          rw [beq_eq_false_iff_ne]; rintro rfl; exact h1 h2
        simp [h1, h2, h3]
      · have h3 := u8_eq h1 h2
        subst h3
        simp [h1, cb_less xs ys]
theorem cb_trans : ∀ a b c : List UInt8, compareBytes a b = -1 → compareBytes b c = -1 → compareBytes a c = -1
  | [], [], _, h, _ => by simp [compareBytes] at h
  | [], _ :: _, [], _, h => by simp [compareBytes] at h
  | [], _ :: _, _ :: _, _, _ => by simp [compareBytes]
  | _ :: _, [], _, h, _ => by simp [compareBytes] at h
  | _ :: _, _ :: _, [], _, h => by simp [compareBytes] at h
  | a :: xs, b :: ys, c :: zs, h, k => by
    unfold compareBytes at h k ⊢
    by_cases h1 : a < b
    · by_cases h3 : b < c
      · rw [if_pos (UInt8.lt_trans h1 h3)]
      · by_cases h4 : c < b
        · rw [if_neg h3, if_pos h4] at k; cases k
        · rw [← u8_eq h3 h4, if_pos h1]
    · by_cases h2 : b < a
      · rw [if_neg h1, if_pos h2] at h; cases h
      · have e := u8_eq h1 h2
        subst e
        rw [if_neg h1, if_neg h1] at h
        by_cases h3 : a < c
        · rw [if_pos h3]
        · by_cases h4 : c < a
          · rw [if_neg h3, if_pos h4] at k; cases k
          · rw [if_neg h3, if_neg h4] at k
            rw [if_neg h3, if_neg h4]
            exact cb_trans xs ys zs h k
def cmpS (a b : ByteArray) : Int := compareBytes a.data.toList b.data.toList
theorem cmpS_self (a : ByteArray) : cmpS a a = 0 := cb_self _
theorem cmpS_swap (a b : ByteArray) : cmpS b a = - cmpS a b := cb_swap _ _
theorem ba_eq {a b : ByteArray} (h : a.data.toList = b.data.toList) : a = b := by
  obtain ⟨⟨x⟩⟩ := a
  obtain ⟨⟨y⟩⟩ := b
  simpa using h
theorem cmpS_zero {a b : ByteArray} (h : cmpS a b = 0) : a = b := ba_eq (cb_zero _ _ h)
theorem cmpS_range (a b : ByteArray) : cmpS a b = -1 ∨ cmpS a b = 0 ∨ cmpS a b = 1 := cb_range _ _
theorem cmpS_trans {a b c : ByteArray} (h : cmpS a b = -1) (k : cmpS b c = -1) : cmpS a c = -1 := cb_trans _ _ _ h k
theorem toList_eq (a : ByteArray) : a.toList = a.data.toList := ByteArray.toList_eq a
theorem less_eq (a b : ByteArray) : Op.bytesLess a.toList b.toList = decide (cmpS a b = -1) := by rw [toList_eq, toList_eq]; exact cb_less _ _
theorem beq_eq (a b : ByteArray) : (a.toList == b.toList) = decide (cmpS a b = 0) := by
  rw [Bool.eq_iff_iff, toList_inj, decide_eq_true_iff]
  exact ⟨fun h => by rw [h]; exact cmpS_self _, cmpS_zero⟩
end Go.GB

set_option linter.unusedVariables false
set_option linter.unusedSimpArgs false
namespace Go.GB
theorem shr_nat (k : IntKind) (a n : Nat) (hn : n ≤ k.bits) : shr k (a : Int) (n : Int) = ((a / 2 ^ n : Nat) : Int) := by
  unfold shr
  rw [Int.toNat_natCast, Nat.min_eq_left hn, Int.fdiv_eq_ediv_of_nonneg _ (by exact Int.pow_nonneg (by omega))]
  norm_cast
theorem app_eq {α : Type} {xs ys : List α} (h : xs.length + ys.length ≤ 2147483648) : app xs ys = some (xs ++ ys) := by unfold app maxLen'; rw [if_pos (by simpa using h)]
theorem ofBytes_toList (l : List Int) : (ofBytes l).data.toList = l.map (fun n => UInt8.ofNat n.toNat) := by
  unfold ofBytes
  have key : ∀ (l : List Int) (r : ByteArray), (l.foldl (fun r n => r.push (UInt8.ofNat n.toNat)) r).data.toList = r.data.toList ++ l.map (fun n => UInt8.ofNat n.toNat) := by
    intro l
    induction l with
    | nil => intro r; simp
    | cons x l ih => intro r; rw [List.foldl_cons, ih]; simp [ByteArray.push]
  rw [key]; simp
end Go.GB
