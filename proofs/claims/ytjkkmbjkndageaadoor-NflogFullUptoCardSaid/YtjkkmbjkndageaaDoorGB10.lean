/- Arrays that stay: tables. -/
import Derived.Test.YtjkkmbjkndageaaDoorGB9
set_option linter.unusedVariables false
set_option linter.unusedSimpArgs false
namespace Go.GB
def arrElem (P : Program) (T : TypeId) : Option (Nat × TypeId × Nat) :=
  match P.underlying T with
  | some (.array n e) => match P.info? e with
    | some i => some (n, e, i.size)
    | none => none
  | _ => none
section
variable {P : Program} {ops : Array Oper} {k N : Nat} {K : KV} {I : Imm} {L : Own} {T : TPost}
theorem gl_indexAddrT {n : Nat} {T' e : TypeId} {xs xi : Operand} {a p : Addr} {len : Nat} {kd : IntKind} {i : Int} (hA : ∃ a', some a = some a' ∧ p = a'.add (i.toNat * n)) (h0 : 0 ≤ i) (h1 : i < (len : Int))
    (ho : (opAt ops k).op = .indexAddr T' xs xi) (h : readyKV ops k N K = true) (hs : kvOp K xs = some (.pointer (some a))) (hi : kvOp K xi = some (.int kd i)) (hu : arrElem P T' = some (len, e, n))
    (kk : GLk P ops (k + 1) N (kvPut K (opAt ops k).dst (.pointer (some p))) I L T) : GLk P ops k N K I L T := by
  obtain ⟨a', ha, rfl⟩ := hA
  cases ha
  unfold arrElem at hu
  split at hu <;> try (cases hu; done)
  rename_i n' e' hu1
  split at hu <;> try (cases hu; done)
  rename_i i' hi'
  simp only [Option.some.injEq, Prod.mk.injEq] at hu
  obtain ⟨rfl, rfl, rfl⟩ := hu
  refine gl_step h (fun t ht W hW => ?_) kk
  simp [execOp, ho, ht.op hs, ht.op hi, Instr.indexAt, asIntOf, run_underlying' hu1, h0, h1, sizeOf, typeInfo, hi', Instr.sureAddr]
end
end Go.GB
