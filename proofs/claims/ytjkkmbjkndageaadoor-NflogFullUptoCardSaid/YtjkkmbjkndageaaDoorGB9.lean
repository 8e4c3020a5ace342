/- Calls of functions without a body; structs that are compared; labels and scopes; slices.Clone. -/
import Derived.Test.YtjkkmbjkndageaaDoorGB8
import Derived.Lib.Bytealg
import Derived.Laws.StructEq
import Derived.Scope
import Derived.Lib.SliceRun
set_option linter.unusedVariables false
set_option linter.unusedSimpArgs false
namespace Go.GB

section
variable {P : Program} {c : Code} {ops : Array Oper} {k N : Nat} {K : KV} {I : Imm} {L : Own} {T : TPost} {Q : Post}

/-! ### 1. Functions without a body -/
def calleeFn (K : KV) (o : Oper) : Option (FuncId × List Value) := match o.op with
  | .call c => match c.callee with
    | .value x => match kvOp K x, kvOps K c.args.toList with
      | some (.func (.func f) a b), some l => some (f, (a ++ l.toArray ++ b).toList)
      | _, _ => none
    | _ => none
  | _ => none
theorem gl_extern {f : FuncId} {l : List Value} {v : Value} (h : readyKV ops k N K = true) (hc : calleeFn K (opAt ops k) = some (f, l)) (hr : ∀ W, Holds I L W → (callFunc f l.toArray).run P W = .ok (.value v) W)
    (kk : GLk P ops (k + 1) N (kvPut K (opAt ops k).dst v) I L T) : GLk P ops k N K I L T := by
  refine gl_step h (fun t ht W hW => ?_) kk
  unfold calleeFn at hc
  split at hc <;> try (cases hc; done)
  rename_i c ho
  split at hc <;> try (cases hc; done)
  rename_i x hx
  split at hc <;> try (cases hc; done)
  rename_i g a b l' hv hl
  simp only [Option.some.injEq, Prod.mk.injEq] at hc
  obtain ⟨rfl, rfl⟩ := hc
  have hargs : c.args.map (Act.mk t []).eval = l'.toArray := by
    have := kvOps_map ht hl
    rw [← Array.toList_inj, Array.toList_map]; exact this
  have := hr W hW
  simp only [execOp, ho, resolve, hx, ht.op hv, Deferred.ofValue, hargs, Sem.run_bind, Sem.run_pure, Result.andThen_ok, invoke]
  have e1 : (a ++ l'.toArray ++ b).toList.toArray = a ++ l'.toArray ++ b := by simp
  rw [e1] at this
  exact this
theorem gl_cmpstring {f : FuncId} {fn : Func} {a b : ByteArray} (hf : P.funcs[f]? = some fn) (h1 : (fn.name == "runtime.NumGoroutine") = false) (h2 : fn.body.isNone = true) (h3 : Extern.findNext fn = none) (h4 : Extern.find fn = some Extern.BytealgCompare.compare)
    (h : readyKV ops k N K = true) (hc : calleeFn K (opAt ops k) = some (f, [.string a, .string b]))
    (kk : GLk P ops (k + 1) N (kvPut K (opAt ops k).dst (.int .i64 (Lib.compareBytes a.data.toList b.data.toList))) I L T) : GLk P ops k N K I L T :=
  gl_extern h hc (fun W _ => by rw [run_callFunc_extern hf h1 h2 h3 h4, Lib.run_compareString]; rfl) kk

/-! ### 2. Structs that are compared -/
def eqVal (P : Program) (t : TypeId) (x y : Value) : Option Bool := match P.underlying t, x, y with
  | some .bool, .bool a, .bool b => some (a == b)
  | some (.int _), .int k a, .int k' b => bif decide (k = k') then some (a == b) else none
  | some .string, .string a, .string b => some (a.toList == b.toList)
  | _, _, _ => none
theorem eqVal_run {t : TypeId} {x y : Value} {b : Bool} (h : eqVal P t x y = some b) (d : Nat) (W : World) : (Op.equalIn (d + 1) t x y).run P W = .ok b W := by
  unfold eqVal at h
  split at h
  · rename_i hu
    simp only [Option.some.injEq] at h
    rw [run_equalIn_bool' W d t _ _ hu, h]
  · rename_i k a k' b' hu
    cases hk : decide (k = k') with
    | false => rw [hk] at h; cases h
    | true =>
      rw [hk] at h
      simp only [cond_true, Option.some.injEq] at h
      have := of_decide_eq_true hk
      subst this
      rw [run_equalIn_int W d t _ _ _ _ hu, h]
  · rename_i hu
    simp only [Option.some.injEq] at h
    rw [run_equalIn_string W d t _ _ hu, h]
  · cases h
def eqField (P : Program) (xs ys : Array Value) (f : Field) : Option Bool :=
  bif decide (f.name ≠ "_") then match aggInfo P f.type, xs[f.offset]?, ys[f.offset]? with
    | some (false, _), some a, some b => eqVal P f.type a b
    | _, _, _ => none
  else none
theorem part_one {t : TypeId} {n : Nat} (h : aggInfo P t = some (false, n)) {cs : Array Value} {o : Nat} {v : Value} (hc : cs[o]? = some v) (W : World) : (part t cs o).run P W = .ok v W := by
  simp [part, (aggInfo_spec h).1, hc]
def eqFieldsV (P : Program) (xs ys : Array Value) : List Field → Option Bool
  | [] => some true
  | [f] => eqField P xs ys f
  | f :: g :: fs => match eqField P xs ys f, eqFieldsV P xs ys (g :: fs) with
    | some a, some b => some (a && b)
    | _, _ => none
theorem eqField_run {xs ys : Array Value} {f : Field} {b : Bool} (h : eqField P xs ys f = some b) (d : Nat) (fs : List Field) (W : World) :
    (Op.eqFields (d + 1) xs ys (f :: fs)).run P W = if b = false then .ok false W else (Op.eqFields (d + 1) xs ys fs).run P W := by
  unfold eqField at h
  cases hn : decide (f.name ≠ "_") with
  | false => rw [hn] at h; cases h
  | true =>
    rw [hn] at h
    simp only [cond_true] at h
    have hn' : f.name ≠ "_" := of_decide_eq_true hn
    split at h <;> try (cases h; done)
    rename_i n a b' hT ha hb
    simp only [Op.eqFields, if_pos hn', Sem.run_bind, part_one hT ha, part_one hT hb, Result.andThen_ok, eqVal_run h]
    cases b <;> simp
theorem eqFieldsV_run (d : Nat) (W : World) {xs ys : Array Value} : ∀ (fs : List Field) (b : Bool), eqFieldsV P xs ys fs = some b → (Op.eqFields (d + 1) xs ys fs).run P W = .ok b W
  | [], b, h => by simp only [eqFieldsV, Option.some.injEq] at h; subst h; simp [Op.eqFields]
  | [f], b, h => by
    rw [eqField_run h]
    cases b <;> simp [Op.eqFields]
  | f :: g :: fs, b, h => by
    simp only [eqFieldsV] at h
    split at h <;> try (cases h; done)
    rename_i a b' ha hb
    simp only [Option.some.injEq] at h
    subst h
    rw [eqField_run ha, eqFieldsV_run d W (g :: fs) b' hb]
    cases a <;> simp
def eqAgg (P : Program) (t : TypeId) (xs ys : Array Value) : Option Bool :=
  match P.underlying t with
  | some (.struct fs) => bif P.stoodInHeld t || P.eqGuardType P.depth t then none else eqFieldsV P xs ys fs.toList
  | _ => none
theorem gl_eqAgg {n : Bool} {t t' : TypeId} {x y : Operand} {cx cy : Array Value} {b : Bool} (ho : (opAt ops k).op = .binOp (bif n then .neq else .eql) t x y t') (h : readyKV ops k N K = true)
    (hx : kvOp K x = some (.agg cx)) (hy : kvOp K y = some (.agg cy)) (hb : eqAgg P t cx cy = some b)
    (kk : GLk P ops (k + 1) N (kvPut K (opAt ops k).dst (.bool (bif n then !b else b))) I L T) : GLk P ops k N K I L T := by
  refine gl_step h (fun tm ht W hW => ?_) kk
  unfold eqAgg at hb
  split at hb <;> try (cases hb; done)
  rename_i fs hu
  cases hs : (P.stoodInHeld t || P.eqGuardType P.depth t) with
  | true => rw [hs] at hb; cases hb
  | false =>
    rw [hs] at hb
    simp only [cond_false] at hb
    simp only [Bool.or_eq_false_iff] at hs
    have hf : P.fieldsOf t = fs := by simp [Program.fieldsOf, hu]
    have h1 : (Op.equalIn 10000 t (.agg cx) (.agg cy)).run P W = .ok b W := by
      rw [run_equalIn_struct W 9999 t cx cy (by rw [hf]; exact hu) hs.1, hf]
      exact eqFieldsV_run 9998 W _ _ hb
    have h2 : ∀ op, (eqGuard op t x y (.agg cx) (.agg cy)).run P W = .ok () W := fun op => run_eqGuard_agg W op t x y cx cy hs.2
    cases n
    · simp only [cond_false] at ho ⊢
      simp only [execOp, ho, ht.op hx, ht.op hy, Sem.run_bind, h2, Result.andThen_ok, run_eql_struct, h1, Sem.run_pure]
    · simp only [cond_true] at ho ⊢
      simp only [execOp, ho, ht.op hx, ht.op hy, Sem.run_bind, h2, Result.andThen_ok, run_neq_struct, h1, Sem.run_pure]

/-! ### 3. Labels and scopes -/
def isLabel : Code → Bool | .label _ => true | _ => false
theorem gk_label (hk : isLabel c = true) (h : GE .normal N K I L Q) : GCk P c N K I L Q := by
  cases c <;> simp only [isLabel, Bool.false_eq_true] at hk
  intro t hK W hW
  exact wp_label ⟨rfl, I, L, hW, h t hK⟩

/-! ### 4. An empty slice that is made -/
theorem gl_buildSlice0 {T' e n : Nat} (ho : (opAt ops k).op = .buildSlice T' 0 #[]) (h : readyKV ops k N K = true) (he : sliceElem P T' = some (e, n))
    (kk : ∀ g, GLk P ops (k + 1) N (kvPut K (opAt ops k).dst (.slice (some ⟨g, 0, none⟩) 0 0)) I ((g, .cells #[] e) :: L) T) : GLk P ops k N K I L T := by
  refine gl_gen h fun t ht W hW => ⟨_, I, _, _, ?_, hW.new (.cells #[] e), kk W.heap.size⟩
  obtain ⟨hu1, hu2⟩ := sliceElem_spec he
  simp [execOp, ho, Instr.buildSlice, run_underlying' hu1, hu2, Instr.fill, newRow, show (Array.map (fun _ : Nat => (default : Value)) (Array.range 0)) = #[] from by simp]
theorem OwnS.empty {α : Type} (d : Kd α) (e : TypeId) (I : Imm) (g : Nat) : OwnS d e I (some ⟨g, 0, none⟩) 0 ([] : List α) [(g, .cells #[] e)] :=
  .inr ⟨g, #[], (0, 0), rfl, rfl, FreeOf.zero _, by simp, by simp, ⟨fun i x h => by simp at h⟩, by simp [maxLen']⟩
/-- A slice that is compared with nil. -/
def isSliceT (P : Program) (t : TypeId) : Bool := match P.underlying t with | some (.slice _) => true | _ => false
theorem gl_eqNil {A : Option Addr} {t t' : TypeId} {x y : Operand} {len c : Nat} {a b : Nat} (ho : (opAt ops k).op = .binOp .eql t x y t') (h : readyKV ops k N K = true)
    (hx : kvOp K x = some (.slice A len c)) (hy : kvOp K y = some (.slice none a b)) (hu : isSliceT P t = true)
    (kk : GLk P ops (k + 1) N (kvPut K (opAt ops k).dst (.bool A.isNone)) I L T) : GLk P ops k N K I L T := by
  refine gl_step h (fun tm ht W hW => ?_) kk
  unfold isSliceT at hu
  split at hu <;> try (cases hu; done)
  rename_i e hu1
  have h2 : (eqGuard .eql t x y (.slice A len c) (.slice none a b)).run P W = .ok () W := by simp [eqGuard]
  have h3 := Lib.run_eql_slice_nil (P := P) W t e A len c a b hu1
  simp only [execOp, ho, ht.op hx, ht.op hy, Sem.run_bind, h2, h3, Result.andThen_ok, Sem.run_pure]
theorem RepS.isNil {α : Type} {d : Kd α} {A : Option Addr} {c : Nat} {xs : List α} (h : RepS d I A c xs) (hA : A.isNone = true) : xs = [] := by
  cases xs with
  | nil => rfl
  | cons x xs =>
    obtain ⟨a, cs, rfl, _⟩ := h.at_ 0 x rfl
    cases hA
theorem clone_nil {α : Type} {xs : List α} {r : List α} (h : (Option.bind (app ([] : List α) xs) fun zs => some zs) = some r) (hx : xs = []) : some ([] : List α) = some r := by
  subst hx
  exact h
end
end Go.GB
