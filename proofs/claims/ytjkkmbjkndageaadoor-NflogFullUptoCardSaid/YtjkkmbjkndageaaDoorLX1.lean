import Derived.Test.YtjkkmbjkndageaaDoorPA1
import Derived.Lib.ValidLaws
set_option linter.unusedVariables false
namespace Go.GB
/-! bytes -/
def letN (c : Nat) : Bool := decide (97 ≤ c ∧ c ≤ 122) || decide (65 ≤ c ∧ c ≤ 90) || decide (c = 95) || decide (c = 58)
def digN (c : Nat) : Bool := decide (48 ≤ c ∧ c ≤ 57)
def hexN (c : Nat) : Bool := digN c || decide (97 ≤ c ∧ c ≤ 102) || decide (65 ≤ c ∧ c ≤ 70)
def lowN (c : Nat) : Bool := decide (97 ≤ c ∧ c ≤ 122)
/-- how many bytes of a kind stand ahead -/
def runL (p : Nat → Bool) (l : List UInt8) : Nat := (l.takeWhile fun c => p c.toNat).length
/-- the byte at a place; 0 behind the end -/
def gB (l : List UInt8) (i : Nat) : Nat := (l.getD i 0).toNat
theorem gB_drop (l : List UInt8) (a i : Nat) : gB (l.drop a) i = gB l (a + i) := by simp [gB, List.getD, List.getElem?_drop]
theorem runL_nil (p : Nat → Bool) : runL p [] = 0 := rfl
theorem runL_le (p : Nat → Bool) (l : List UInt8) : runL p l ≤ l.length := by
  unfold runL; exact (List.takeWhile_sublist _).length_le
theorem runL_cons (p : Nat → Bool) (c : UInt8) (l : List UInt8) : runL p (c :: l) = if p c.toNat then runL p l + 1 else 0 := by
  unfold runL; rw [List.takeWhile_cons]; split <;> simp
/-- a place within the run -/
theorem runL_in {p : Nat → Bool} {l : List UInt8} {i : Nat} (h : i < runL p l) : i < l.length ∧ p (gB l i) = true := by
  induction l generalizing i with
  | nil => simp [runL] at h
  | cons c l ih =>
    rw [runL_cons] at h
    split at h
    · rename_i hc
      cases i with
      | zero => exact ⟨by simp, by simpa [gB] using hc⟩
      | succ i =>
        obtain ⟨h1, h2⟩ := ih (by omega : i < runL p l)
        exact ⟨by simp; omega, by simpa [gB] using h2⟩
    · omega
theorem runL_end {p : Nat → Bool} {l : List UInt8} (h : runL p l < l.length) : p (gB l (runL p l)) = false := by
  induction l with
  | nil => simp at h
  | cons c l ih =>
    rw [runL_cons] at h ⊢
    split
    · rename_i hc
      rw [if_pos hc] at h
      have := ih (by simpa using h)
      simpa [gB] using this
    · rename_i hc; simpa [gB] using hc
/-- at a place within a run: what is left of it -/
theorem runL_drop {p : Nat → Bool} {l : List UInt8} {i : Nat} (h : i ≤ runL p l) : runL p (l.drop i) = runL p l - i := by
  induction l generalizing i with
  | nil => simp [runL]
  | cons c l ih =>
    cases i with
    | zero => simp
    | succ i =>
      rw [runL_cons] at h ⊢
      split at h
      · rename_i hc
        rw [List.drop_succ_cons, ih (by omega), if_pos hc]; omega
      · omega
theorem runL_step {p : Nat → Bool} {l : List UInt8} {i : Nat} (hi : i < l.length) : runL p (l.drop i) = if p (gB l i) then runL p (l.drop (i + 1)) + 1 else 0 := by
  rw [List.drop_eq_getElem_cons hi, runL_cons]
  simp [gB, List.getD, List.getElem?_eq_getElem hi]
theorem runL_out {p : Nat → Bool} {l : List UInt8} {i : Nat} (hi : l.length ≤ i) : runL p (l.drop i) = 0 := by rw [List.drop_eq_nil_of_le hi]; rfl
/-- the run of a text that is cut behind it -/
theorem runL_take {p : Nat → Bool} {l : List UInt8} {n : Nat} : runL p (l.take n) = min n (runL p l) := by
  induction l generalizing n with
  | nil => simp [runL]
  | cons c l ih =>
    cases n with
    | zero => simp [runL]
    | succ n =>
      rw [List.take_succ_cons, runL_cons, runL_cons, ih]
      split <;> omega

/-! numbers -/
def expK (l : List UInt8) (n : Nat) : Nat := if gB l (n + 1) = 43 ∨ gB l (n + 1) = 45 then n + 2 else n + 1
def expL (l : List UInt8) (n : Nat) : Nat :=
  if gB l n = 101 ∨ gB l n = 69 then (if 0 < runL digN (l.drop (expK l n)) then expK l n + runL digN (l.drop (expK l n)) else n) else n
def numA (l : List UInt8) (a : Nat) : Nat := if gB l a = 46 then (if a + runL digN (l.drop (a + 1)) = 0 then 0 else a + 1 + runL digN (l.drop (a + 1))) else a
def numL (l : List UInt8) : Nat :=
  if gB l 0 = 48 ∧ (gB l 1 = 120 ∨ gB l 1 = 88) ∧ 0 < runL hexN (l.drop 2) then 2 + runL hexN (l.drop 2)
  else if numA l (runL digN l) = 0 then 0 else expL l (numA l (runL digN l))
end Go.GB
