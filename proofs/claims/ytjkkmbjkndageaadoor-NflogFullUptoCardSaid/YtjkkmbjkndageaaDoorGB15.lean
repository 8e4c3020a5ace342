/- Strings put together; division. -/
import Derived.Test.YtjkkmbjkndageaaDoorGB12
set_option linter.unusedVariables false
set_option linter.unusedSimpArgs false
namespace Go.GB
def sadd (x y : ByteArray) : Option ByteArray := if x.size + y.size ≤ 9223372036854775807 then some (x ++ y) else none
section
variable {P : Program} {ops : Array Oper} {k N : Nat} {K : KV} {I : Imm} {L : Own} {T : TPost}
theorem gl_sadd {t t' : TypeId} {x y : Operand} {a b r : ByteArray} (hr : sadd a b = some r) (ho : (opAt ops k).op = .binOp .add t x y t') (h : readyKV ops k N K = true)
    (hx : kvOp K x = some (.string a)) (hy : kvOp K y = some (.string b))
    (kk : GLk P ops (k + 1) N (kvPut K (opAt ops k).dst (.string r)) I L T) : GLk P ops k N K I L T := by
  unfold sadd at hr
  split at hr <;> try (cases hr; done)
  rename_i hle
  simp only [Option.some.injEq] at hr
  subst hr
  refine gl_step h (fun tm ht W hW => ?_) kk
  have h1 : ¬ (((a.size + b.size : Nat) : Int) > IntKind.i64.max) := by
    have : IntKind.i64.max = 9223372036854775807 := by decide
    rw [this]; omega
  have h3 : (binOp .add t (.string a) (.string b)).run P W = .ok (.string (a ++ b)) W := by
    show (Op.stringOp .add a b).run P W = _
    unfold Op.stringOp
    simp only [h1, if_false, Sem.run_pure]
  have h2 : (eqGuard .add t x y (.string a) (.string b)).run P W = .ok () W := by simp [eqGuard]
  simp only [execOp, ho, ht.op hx, ht.op hy, Sem.run_bind, h2, h3, Result.andThen_ok, Sem.run_pure]
end
end Go.GB
