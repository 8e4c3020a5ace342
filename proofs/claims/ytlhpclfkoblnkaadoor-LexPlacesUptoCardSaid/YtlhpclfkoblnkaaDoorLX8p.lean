/- Plain laws: the document's scans are the lists'. -/
import Derived.Test.YtlhpclfkoblnkaaDoorLX7p
import Derived.Test.YtlhpclfkoblnkaaDoorPB1p
set_option linter.unusedVariables false
set_option maxRecDepth 100000
namespace Go.Proofs.YtlhpclfkoblnkaaDoor
open Go.GB Go.Lib
/-- a loop that goes on while bytes are of a kind -/
theorem while_eq {s : ByteArray} {body : Int → Option (Int ⊕ Int)} (p : Nat → Bool) (hs : s.size < 4294967296)
    (hb : ∀ k : Nat, k ≤ s.size → body (k : Int) = some (if k < s.size ∧ p (gB (tl s) k) = true then .inl ((k + 1 : Nat) : Int) else .inr (k : Int))) {a : Nat} (ha : a ≤ s.size) :
    loopO body (a : Int) = some ((a + runL p ((tl s).drop a) : Nat) : Int) := by
  have hl := tl_len s
  have := loop_runL (body := body) (l := tl s) (p := p) 0 (fun k hk => by rw [Nat.zero_add, hl]; exact hb k (by omega)) (s.size - a) a (by omega)
  rw [Nat.zero_add] at this
  exact this
theorem while_body {s : ByteArray} {p : Nat → Bool} {k : Nat} {j : Bool} (hs : s.size < 4294967296) (h0 : p 0 = false) (hj : j = p (gB (tl s) k)) (hk : k ≤ s.size) :
    (bif j then some (Sum.inl (IntKind.wrap .i64 ((k : Int) + 1))) else some (Sum.inr (k : Int)) : Option (Int ⊕ Int)) = some (if k < s.size ∧ p (gB (tl s) k) = true then .inl ((k + 1 : Nat) : Int) else .inr (k : Int)) := by
  have hl := tl_len s
  rw [wrapN (n := k + 1) (by omega) (by omega), hj]
  cases hc : p (gB (tl s) k) with
  | true =>
    have hi : k < s.size := by
      rcases Nat.lt_or_ge k s.size with h | h
      · exact h
      · rw [gB_out (by omega), h0] at hc; cases hc
    rw [cond_true, if_pos ⟨hi, rfl⟩]
  | false => rw [cond_false, if_neg (by simp)]
end Go.Proofs.YtlhpclfkoblnkaaDoor
