/- Plain laws: LexTokens. -/
import Derived.Test.YtlhpclfkoblnkaaDoorLX11
set_option linter.unusedVariables false
set_option maxRecDepth 100000
namespace Go.Proofs.YtlhpclfkoblnkaaDoor
open Go.GB Go.Lib
theorem lex_set_loop : ∀ (d i : Nat) (l : List S27), i + d = l.length → l.length ≤ 1000000 → loopO tocsinlaw13_LexTokens_l57 (l, (i : Int)) = some ()
  | 0, i, l, hi, hl => by
    refine loopO_done ?_
    unfold tocsinlaw13_LexTokens_l57
    rw [decide_eq_false (by show ¬ ((i : Int) < (l.length : Int)); omega)]; rfl
  | d + 1, i, l, hi, hl => by
    have hb : tocsinlaw13_LexTokens_l57 (l, (i : Int)) = some (.inl (lset l (i : Int) ⟨99, ⟨#[]⟩, 0⟩, ((i + 1 : Nat) : Int))) := by
      unfold tocsinlaw13_LexTokens_l57
      rw [decide_eq_true (by show (i : Int) < (l.length : Int); omega), cond_true]
      simp only [ix_nat, List.getElem?_eq_getElem (show i < l.length by omega), Option.bind_some]
      rw [wrap_up (by omega)]
    have hlen : (lset l (i : Int) (⟨99, ⟨#[]⟩, 0⟩ : S27)).length = l.length := by simp [lset]
    rw [loopO_step hb]
    exact lex_set_loop d (i + 1) _ (by rw [hlen]; omega) (by omega)
theorem tocsinlaw13_LexTokens_true {I : Imm} {c0 : List Value} {n0 : Nat} (a0 : ByteArray) (h0 : Kd.str.R I a0 c0) (w0 : wStr a0 n0) (hn : n0 ≤ 1048576) : tocsinlaw13_LexTokens a0 = some true := by
  have hl := tokR_len a0
  unfold tocsinlaw13_LexTokens
  rw [lex_Tokens_eq, rTokens_eq]
  simp only [Option.bind_some]
  rw [whole_self (by omega)]
  simp only [Option.bind_some, Bool.not_true, cond_false, bne_self_eq_false, cond_true, known_true]
  have := lex_set_loop (tokR a0).1.length 0 (tokR a0).1 (by omega) (by omega)
  rw [show ((0 : Nat) : Int) = 0 from rfl] at this
  rw [this]; rfl
end Go.Proofs.YtlhpclfkoblnkaaDoor
