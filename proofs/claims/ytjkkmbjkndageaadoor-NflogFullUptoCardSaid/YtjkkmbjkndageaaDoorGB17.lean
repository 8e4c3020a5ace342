/- Shifts and divisions by what is not known ahead. -/
import Derived.Test.YtjkkmbjkndageaaDoorGB16
set_option linter.unusedVariables false
set_option linter.unusedSimpArgs false
namespace Go.GB
def shlx (k : IntKind) (x y : Int) : Option Int := if 0 ≤ y then some (shl k x y) else none
def shrx (k : IntKind) (x y : Int) : Option Int := if 0 ≤ y then some (shr k x y) else none
def quox (k : IntKind) (x y : Int) : Option Int := if y ≠ 0 then some (IntKind.wrap k (Int.tdiv x y)) else none
def remx (k : IntKind) (x y : Int) : Option Int := if y ≠ 0 then some (Int.tmod x y) else none
section
variable {P : Program} {ops : Array Oper} {k N : Nat} {K : KV} {I : Imm} {L : Own} {T : TPost}
theorem gl_binv {b : BinOp} {t t' : TypeId} {x y : Operand} {u v r : Value} (ho : (opAt ops k).op = .binOp b t x y t') (h : readyKV ops k N K = true)
    (hx : kvOp K x = some u) (hy : kvOp K y = some v) (hb : (match b with | .eql => true | .neq => true | _ => false) = false) (hr : ∀ W, (binOp b t u v).run P W = .ok r W)
    (kk : GLk P ops (k + 1) N (kvPut K (opAt ops k).dst r) I L T) : GLk P ops k N K I L T := by
  refine gl_step h (fun tm ht W hW => ?_) kk
  have h2 : (eqGuard b t x y u v).run P W = .ok () W := by cases b <;> simp at hb <;> simp [eqGuard]
  simp only [execOp, ho, ht.op hx, ht.op hy, Sem.run_bind, h2, hr, Result.andThen_ok, Sem.run_pure]
theorem gl_shl {t t' : TypeId} {x y : Operand} {kx ky : IntKind} {a b r : Int} (hr : shlx kx a b = some r) (ho : (opAt ops k).op = .binOp .shl t x y t') (h : readyKV ops k N K = true)
    (hx : kvOp K x = some (.int kx a)) (hy : kvOp K y = some (.int ky b)) (kk : GLk P ops (k + 1) N (kvPut K (opAt ops k).dst (.int kx r)) I L T) : GLk P ops k N K I L T := by
  unfold shlx at hr
  split at hr <;> cases hr
  rename_i h0
  exact gl_binv ho h hx hy rfl (fun W => by simp [binOp, Op.shift, show ¬ b < 0 by omega, shl]) kk
theorem gl_shr {t t' : TypeId} {x y : Operand} {kx ky : IntKind} {a b r : Int} (hr : shrx kx a b = some r) (ho : (opAt ops k).op = .binOp .shr t x y t') (h : readyKV ops k N K = true)
    (hx : kvOp K x = some (.int kx a)) (hy : kvOp K y = some (.int ky b)) (kk : GLk P ops (k + 1) N (kvPut K (opAt ops k).dst (.int kx r)) I L T) : GLk P ops k N K I L T := by
  unfold shrx at hr
  split at hr <;> cases hr
  rename_i h0
  exact gl_binv ho h hx hy rfl (fun W => by simp [binOp, Op.shift, show ¬ b < 0 by omega, shr]) kk
theorem gl_quo {t t' : TypeId} {x y : Operand} {kx : IntKind} {a b r : Int} (hr : quox kx a b = some r) (ho : (opAt ops k).op = .binOp .quo t x y t') (h : readyKV ops k N K = true)
    (hx : kvOp K x = some (.int kx a)) (hy : kvOp K y = some (.int kx b)) (kk : GLk P ops (k + 1) N (kvPut K (opAt ops k).dst (.int kx r)) I L T) : GLk P ops k N K I L T := by
  unfold quox at hr
  split at hr <;> cases hr
  rename_i h0
  exact gl_binv ho h hx hy rfl (fun W => by simp [binOp, Op.intDiv, h0]) kk
theorem gl_rem {t t' : TypeId} {x y : Operand} {kx : IntKind} {a b r : Int} (hr : remx kx a b = some r) (ho : (opAt ops k).op = .binOp .rem t x y t') (h : readyKV ops k N K = true)
    (hx : kvOp K x = some (.int kx a)) (hy : kvOp K y = some (.int kx b)) (kk : GLk P ops (k + 1) N (kvPut K (opAt ops k).dst (.int kx r)) I L T) : GLk P ops k N K I L T := by
  unfold remx at hr
  split at hr <;> cases hr
  rename_i h0
  exact gl_binv ho h hx hy rfl (fun W => by simp [binOp, Op.intDiv, h0]) kk
end
end Go.GB
