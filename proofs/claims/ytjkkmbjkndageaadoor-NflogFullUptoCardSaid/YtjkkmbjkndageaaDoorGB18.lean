/- Arrays that are compared. -/
import Derived.Test.YtjkkmbjkndageaaDoorGB17
set_option linter.unusedVariables false
set_option linter.unusedSimpArgs false
namespace Go.GB
section
variable {P : Program} {ops : Array Oper} {k N : Nat} {K : KV} {I : Imm} {L : Own} {T : TPost}
def eqElem (P : Program) (e : TypeId) (xs ys : Array Value) (i : Nat) : Option Bool := match aggInfo P e, xs[i]?, ys[i]? with
  | some (false, _), some a, some b => eqVal P e a b
  | _, _, _ => none
def eqElemsV (P : Program) (e : TypeId) (xs ys : Array Value) : List Nat → Option Bool
  | [] => some true
  | [i] => eqElem P e xs ys i
  | i :: j :: r => match eqElem P e xs ys i, eqElemsV P e xs ys (j :: r) with
    | some a, some b => some (a && b)
    | _, _ => none
theorem eqElem_run {e : TypeId} {xs ys : Array Value} {i : Nat} {b : Bool} (h : eqElem P e xs ys i = some b) (d : Nat) (W : World) :
    ∃ u v, (part e xs i).run P W = .ok u W ∧ (part e ys i).run P W = .ok v W ∧ (Op.equalIn (d + 1) e u v).run P W = .ok b W := by
  unfold eqElem at h
  split at h <;> try (cases h; done)
  rename_i n a b' hT ha hb
  exact ⟨a, b', part_one hT ha W, part_one hT hb W, eqVal_run h d W⟩
def eqLoop (d : Nat) (e n : Nat) (xs ys : Array Value) (l : List Nat) : Sem (Option Bool × PUnit) :=
  forIn l ((none, ⟨⟩) : Option Bool × PUnit) fun i _ => do
    if !(← Op.equalIn d e (← part e xs (i * n)) (← part e ys (i * n))) then pure (.done (some false, ⟨⟩)) else pure (.yield (none, ⟨⟩))
theorem eqLoop_run (d : Nat) (e : TypeId) {xs ys : Array Value} (W : World) : ∀ (l : List Nat) (b : Bool), eqElemsV P e xs ys l = some b → (eqLoop (d + 1) e 1 xs ys l).run P W = .ok (if b then none else some false, ⟨⟩) W
  | [], b, h => by simp only [eqElemsV, Option.some.injEq] at h; subst h; simp [eqLoop]
  | [i], b, h => by
    obtain ⟨u, v, h1, h2, h3⟩ := eqElem_run h d W
    cases b <;> simp [eqLoop, Nat.mul_one, h1, h2, h3]
  | i :: j :: r, b, h => by
    simp only [eqElemsV] at h
    split at h <;> try (cases h; done)
    rename_i a b' ha hb
    simp only [Option.some.injEq] at h
    subst h
    obtain ⟨u, v, h1, h2, h3⟩ := eqElem_run ha d W
    have ih := eqLoop_run d e W (j :: r) b' hb
    unfold eqLoop at ih ⊢
    rw [List.forIn_cons]
    cases a with
    | false => simp [Nat.mul_one, h1, h2, h3]
    | true =>
      simp only [Nat.mul_one, Sem.run_bind, h1, h2, h3, Result.andThen_ok, Bool.not_true, Bool.false_eq_true, if_false, Sem.run_pure, Bool.true_and]
      simpa [Nat.mul_one] using ih
def arrInfo (P : Program) (t : TypeId) : Option (Nat × TypeId) := match P.underlying t with
  | some (.array n e) => bif P.eqGuardType P.depth t then none else match P.info? e with
    | some i => bif Nat.beq i.size 1 then some (n, e) else none
    | none => none
  | _ => none
theorem gl_eqArr {neg : Bool} {t t' e n : Nat} {x y : Operand} {cx cy : Array Value} {b : Bool} (ho : (opAt ops k).op = .binOp (bif neg then .neq else .eql) t x y t') (h : readyKV ops k N K = true)
    (hx : kvOp K x = some (.agg cx)) (hy : kvOp K y = some (.agg cy)) (ha : arrInfo P t = some (n, e)) (hb : eqElemsV P e cx cy (List.range' 0 n) = some b)
    (kk : GLk P ops (k + 1) N (kvPut K (opAt ops k).dst (.bool (bif neg then !b else b))) I L T) : GLk P ops k N K I L T := by
  refine gl_step h (fun tm ht W hW => ?_) kk
  unfold arrInfo at ha
  split at ha <;> try (cases ha; done)
  rename_i n' e' hu
  cases hs : P.eqGuardType P.depth t with
  | true => rw [hs] at ha; cases ha
  | false =>
    rw [hs] at ha
    simp only [cond_false] at ha
    split at ha <;> try (cases ha; done)
    rename_i i hi
    cases hz : Nat.beq i.size 1 with
    | false => rw [hz] at ha; cases ha
    | true =>
      rw [hz] at ha
      simp only [cond_true, Option.some.injEq, Prod.mk.injEq] at ha
      obtain ⟨rfl, rfl⟩ := ha
      have hsz : i.size = 1 := Nat.eq_of_beq_eq_true hz
      have h1 : (Op.equalIn 10000 t (.agg cx) (.agg cy)).run P W = .ok b W := by
        have hl := eqLoop_run (P := P) 9998 e' W (List.range' 0 n') b hb
        unfold eqLoop at hl
        rw [show (10000 : Nat) = 9999 + 1 from rfl]
        unfold Op.equalIn
        simp only [Sem.run_bind, run_underlying' hu, Result.andThen_ok, sizeOf, typeInfo, run_program, hi, Sem.run_pure, hsz, Std.Legacy.Range.forIn_eq_forIn_range', Std.Legacy.Range.size, Nat.sub_zero, Nat.add_sub_cancel, Nat.div_one]
        refine Eq.trans (congrArg (fun z => Result.andThen z _) hl) ?_
        cases b <;> simp
      have h2 : ∀ op, (eqGuard op t x y (.agg cx) (.agg cy)).run P W = .ok () W := fun op => run_eqGuard_agg W op t x y cx cy hs
      cases neg
      · simp only [cond_false] at ho ⊢
        simp only [execOp, ho, ht.op hx, ht.op hy, Sem.run_bind, h2, Result.andThen_ok, run_eql_struct, h1, Sem.run_pure]
      · simp only [cond_true] at ho ⊢
        simp only [execOp, ho, ht.op hx, ht.op hy, Sem.run_bind, h2, Result.andThen_ok, run_neq_struct, h1, Sem.run_pure]
end
end Go.GB
