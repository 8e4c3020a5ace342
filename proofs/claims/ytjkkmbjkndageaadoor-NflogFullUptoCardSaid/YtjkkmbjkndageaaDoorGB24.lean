/- Decimal numerals, by a number of rounds. -/
import Derived.Test.YtjkkmbjkndageaaDoorGB21
import Derived.Shelf.Strconv.Itoa4
import Derived.Scope
set_option linter.unusedVariables false
set_option linter.unusedSimpArgs false
namespace Go.GB
/-! ### Labels that are gone to from nowhere -/
def isScope : Code → Bool | .scope .. => true | _ => false
def scopeQ (Q : Post) : Post := fun e t I L => match e with | .goto _ => False | e => Q e t I L
section
variable {P : Program} {c : Code} {N : Nat} {K : KV} {I : Imm} {L : Own} {Q : Post}
theorem gk_scope (hk : isScope c = true) (h : GCk P (c1 c) N K I L (scopeQ Q)) : GCk P c N K I L Q := by
  cases c <;> simp only [isScope, Bool.false_eq_true] at hk
  rename_i b
  intro t hK W hW
  refine wp_scope_straight (wp_mono (h t hK W hW) ?_)
  rintro e a' W' ⟨hd, I', L', hh, hQ⟩
  cases e with
  | goto l => exact hQ.elim
  | _ => exact ⟨hd, I', L', hh, hQ⟩
theorem ge_scope_normal (h : GE .normal N K I L Q) : GE .normal N K I L (scopeQ Q) := h
theorem ge_scope_ret (h : GE .ret N K I L Q) : GE .ret N K I L (scopeQ Q) := h
theorem ge_scope_exit {j : Nat} (h : GE (.exit j) N K I L Q) : GE (.exit j) N K I L (scopeQ Q) := h
end
def decF : Nat → Nat → List UInt8
  | 0, _ => []
  | f + 1, u => bif Nat.blt u 10 then [UInt8.ofNat (48 + u)] else decF f (u / 10) ++ [UInt8.ofNat (48 + u % 10)]
theorem decF_eq : ∀ (f u : Nat), u < 10 ^ (f + 1) → decF (f + 1) u = Go.Lib.decDigits u
  | 0, u, h => by
    rw [Go.Lib.decDigits, dif_pos (by omega)]
    have : Nat.blt u 10 = true := by simpa [Nat.blt_eq] using h
    simp [decF, this]
  | f + 1, u, h => by
    rw [Go.Lib.decDigits]
    by_cases hu : u < 10
    · have : Nat.blt u 10 = true := by simpa [Nat.blt_eq] using hu
      rw [dif_pos hu]; rw [decF]; simp [this]
    · have : Nat.blt u 10 = false := by
        cases hb : Nat.blt u 10 with
        | false => rfl
        | true => rw [Nat.blt_eq] at hb; exact absurd hb hu
      rw [dif_neg hu, decF, this, cond_false, decF_eq f (u / 10) (by rw [Nat.pow_succ] at h; omega)]
def itoaF (n : Int) : List UInt8 := bif decide (n < 0) then 45 :: decF 20 n.natAbs else decF 20 n.toNat
theorem itoaF_eq {n : Int} (h0 : -9223372036854775808 ≤ n) (h1 : n ≤ 9223372036854775807) : itoaF n = Go.Lib.itoa n := by
  unfold itoaF Go.Lib.itoa
  by_cases hn : n < 0
  · rw [if_pos hn, decide_eq_true hn, cond_true, decF_eq 19 _ (by omega)]
  · rw [if_neg hn, decide_eq_false hn, cond_false, decF_eq 19 _ (by omega)]
end Go.GB
