/- Rules for single operations: those that leave the world alone, and calls. -/
import Derived.Test.YtjkkmbjkndageaaDoorGB1
set_option linter.unusedVariables false
set_option linter.unusedSimpArgs false
namespace Go.GB

def opAt (ops : Array Oper) (k : Nat) : Oper := ops.getD k default
def dstOk (N : Nat) (d : Option Nat) : Bool := match d with | none => true | some i => Nat.blt i N
def kvWanted (ops : Array Oper) (K : KV) (o : Oper) : Option Bool :=
  match o.guard with
  | none => some true
  | some (j, want) => match (ops[j]?).bind (·.dst) with
    | none => some false
    | some d => match kvGet K d with
      | some (.bool b) => some (b == want)
      | some (.tuple _) => some false
      | _ => none
theorem kvWanted_sound {N : Nat} {K : KV} {t : Array Value} {ops : Array Oper} {o : Oper} {b : Bool} (h : Knows N K t) (hw : kvWanted ops K o = some b) :
    Region.wanted o (yielded ops t) = b := by
  unfold kvWanted at hw
  unfold Region.wanted
  split at hw
  · rename_i hg; rw [hg]; simpa using hw
  · rename_i j want hg
    rw [hg]
    simp only [yielded]
    split at hw
    · rename_i hd; rw [hd]; simpa using hw
    · rename_i d hd
      rw [hd]
      split at hw
      · rename_i x hx
        have := h.kv _ (kvGet_mem hx)
        simp only [Option.bind_some, this]
        simpa using hw
      · rename_i x hx
        have := h.kv _ (kvGet_mem hx)
        simp only [Option.bind_some, this]
        simpa using hw
      · cases hw

def pureVal (P : Program) : Sem Next → Option Value
  | .pure (.value v) => some v
  | .program k => pureVal P (k P)
  | _ => none
theorem pureVal_sound {P : Program} {s : Sem Next} {v : Value} (h : pureVal P s = some v) (W : World) : s.run P W = .ok (.value v) W := by
  induction s with
  | pure a => cases a <;> simp only [pureVal, reduceCtorEq, Option.some.injEq] at h; subst h; rfl
  | program k ih => exact ih P h
  | _ => cases h
def enterOf (P : Program) : Sem Next → Option (FuncId × Array Value)
  | .pure (.enter f a) => some (f, a)
  | .program k => enterOf P (k P)
  | _ => none
theorem enterOf_sound {P : Program} {s : Sem Next} {f : FuncId} {a : Array Value} (h : enterOf P s = some (f, a)) (W : World) : s.run P W = .ok (.enter f a) W := by
  induction s with
  | pure x => cases x <;> simp only [enterOf, reduceCtorEq, Option.some.injEq, Prod.mk.injEq] at h; obtain ⟨rfl, rfl⟩ := h; rfl
  | program k ih => exact ih P h
  | _ => cases h

def isSelect : Op → Bool | .select .. => true | _ => false
def kvKnown (K : KV) (o : Oper) : Bool := !isSelect o.op && o.op.operands.toList.all fun x => (kvOp K x).isSome
theorem kvKnown_exec {N : Nat} {K : KV} {t : Array Value} {o : Oper} (h : Knows N K t) (hk : kvKnown K o = true) : execOp (Act.mk t []).eval o = execOp (kvVal K) o := by
  simp only [kvKnown, Bool.and_eq_true, Bool.not_eq_true', List.all_eq_true] at hk
  refine execOp_congr o (fun cs b he => by rw [he] at hk; simp [isSelect] at hk) fun x hx => ?_
  have := hk.2 x (by simpa using hx)
  obtain ⟨v, hv⟩ := Option.isSome_iff_exists.1 this
  rw [h.op hv, kvVal, hv]; rfl

section
variable {P : Program} {ops : Array Oper} {k N : Nat} {K : KV} {I : Imm} {L : Own} {T : TPost}

theorem drop_at {k : Nat} (hk : Nat.blt k ops.size = true) : ops.toList.drop k = opAt ops k :: ops.toList.drop (k + 1) := by
  have h : k < ops.toList.length := by
    have := Nat.le_of_ble_eq_true hk
    rw [Array.length_toList]; omega
  rw [List.drop_eq_getElem_cons h]
  congr 1
  rw [Array.length_toList] at h
  simp [opAt, h]

theorem gl_done (h : ∀ t, Knows N K t → T t I L) (hk : Nat.ble ops.size k = true) : GLk P ops k N K I L T := by
  intro t ht W hW
  have : ops.toList.drop k = [] := List.drop_eq_nil_of_le (by rw [Array.length_toList]; exact Nat.le_of_ble_eq_true hk)
  rw [this]
  exact wpList_nil ⟨rfl, I, L, hW, h t ht⟩
theorem gl_toC {c : Code} {Q : Post} (hk : Nat.ble ops.size k = true) (h : GCk P c N K I L Q) : GLk P ops k N K I L (toC P c Q) := gl_done h hk
theorem gl_atE {e : Exit} {Q : Post} (hk : Nat.ble ops.size k = true) (h : GE e N K I L Q) : GLk P ops k N K I L (atE e Q) := gl_done h hk

/-- An operation of which is known what it comes to, in whatever world that fits. -/
def Yields (P : Program) (o : Oper) (t : Array Value) (I : Imm) (L : Own) (v : Value) : Prop :=
  ∀ W, Holds I L W → (execOp (Act.mk t []).eval o).run P W = .ok (.value v) W

def readyKV (ops : Array Oper) (k N : Nat) (K : KV) : Bool := Nat.blt k ops.size && (kvWanted ops K (opAt ops k) == some true) && dstOk N (opAt ops k).dst
theorem readyKV_spec (h : readyKV ops k N K = true) : Nat.blt k ops.size = true ∧ kvWanted ops K (opAt ops k) = some true ∧ ∀ i, (opAt ops k).dst = some i → i < N := by
  simp only [readyKV, Bool.and_eq_true, beq_iff_eq] at h
  refine ⟨h.1.1, h.1.2, fun i hi => ?_⟩
  have h2 := h.2
  rw [hi] at h2
  simp only [dstOk] at h2
  exact Nat.le_of_ble_eq_true h2

theorem gl_step {v : Value} (h : readyKV ops k N K = true) (hv : ∀ t, Knows N K t → Yields P (opAt ops k) t I L v)
    (kk : GLk P ops (k + 1) N (kvPut K (opAt ops k).dst v) I L T) : GLk P ops k N K I L T := by
  obtain ⟨hk, hw, hd⟩ := readyKV_spec h
  intro t ht W hW
  rw [drop_at hk]
  unfold wpList
  rw [if_pos (kvWanted_sound ht hw)]
  refine .inl ?_
  unfold Oper.wp
  rw [hv t ht W hW]
  show wpList P ops _ _ (Act.put ⟨t, []⟩ (opAt ops k).dst v) W
  rw [act_put_nil]
  exact kk _ (ht.put _ _ hd) W hW
/-- An operation whose guard says no. -/
theorem gl_not (hk : Nat.blt k ops.size = true) (hw : kvWanted ops K (opAt ops k) = some false) (hd : dstOk N (opAt ops k).dst = true) (kk : GLk P ops (k + 1) N (kvPut K (opAt ops k).dst undef) I L T) : GLk P ops k N K I L T := by
  intro t ht W hW
  rw [drop_at hk]
  unfold wpList
  rw [if_neg (by rw [kvWanted_sound ht hw]; simp)]
  rw [act_put_nil]
  refine kk _ (ht.put _ _ fun i hi => ?_) W hW
  rw [hi] at hd
  exact Nat.le_of_ble_eq_true hd
/-- A guard of which is not known what it says: both ways. -/
theorem gl_case {b : Bool} (d : Nat) (hb : kvGet K d = some (.bool b)) (ht : b = true → GLk P ops k N (kvPut K (some d) (.bool true)) I L T) (hf : b = false → GLk P ops k N (kvPut K (some d) (.bool false)) I L T) : GLk P ops k N K I L T := by
  intro t hk
  have hd := hk.kv _ (kvGet_mem hb)
  have hset : ∀ c, b = c → Knows N (kvPut K (some d) (.bool c)) t := fun c hc => by
    refine ⟨hk.size, fun p hp => ?_⟩
    rcases List.mem_cons.1 hp with rfl | hp
    · rw [← hc]; exact hd
    · exact hk.kv p (kvDel_mem hp).1
  cases hc : b with
  | true => exact ht hc t (hset _ hc)
  | false => exact hf hc t (hset _ hc)

/-! ### Pure operations, many at once -/
def runPure (P : Program) (ops : Array Oper) (N : Nat) : (m k : Nat) → KV → Option KV
  | 0, _, K => some K
  | m + 1, k, K =>
    bif Nat.blt k ops.size then
      match kvWanted ops K (opAt ops k) with
      | some true =>
        bif kvKnown K (opAt ops k) && dstOk N (opAt ops k).dst then
          match pureVal P (execOp (kvVal K) (opAt ops k)) with
          | some v => runPure P ops N m (k + 1) (kvPut K (opAt ops k).dst v)
          | none => none
        else none
      | some false => bif dstOk N (opAt ops k).dst then runPure P ops N m (k + 1) (kvPut K (opAt ops k).dst undef) else none
      | none => none
    else none
def runPick (P : Program) (ops : Array Oper) (N m k : Nat) (K : KV) (l : List Nat) : Option KV := (runPure P ops N m k K).bind (kvPick l)

theorem gl_run (m : Nat) {K' : KV} (h : runPure P ops N m k K = some K') (kk : GLk P ops (k + m) N K' I L T) : GLk P ops k N K I L T := by
  induction m generalizing k K with
  | zero => simp only [runPure, Option.some.injEq] at h; subst h; exact kk
  | succ m ih =>
    simp only [runPure] at h
    cases hk : Nat.blt k ops.size with
    | false => rw [hk] at h; cases h
    | true =>
      rw [hk] at h
      simp only [cond_true] at h
      rw [show k + (m + 1) = (k + 1) + m from by omega] at kk
      split at h
      · rename_i hw
        cases hb : (kvKnown K (opAt ops k) && dstOk N (opAt ops k).dst) with
        | false => rw [hb] at h; cases h
        | true =>
          rw [hb] at h
          simp only [cond_true] at h
          split at h
          · rename_i v hv
            simp only [Bool.and_eq_true] at hb
            refine gl_step (v := v) ?_ (fun t ht W hW => ?_) (ih h kk)
            · simp only [readyKV, hk, hw, hb.2]; decide
            · rw [kvKnown_exec ht hb.1]; exact pureVal_sound hv W
          · cases h
      · rename_i hw
        cases hd : dstOk N (opAt ops k).dst with
        | false => rw [hd] at h; cases h
        | true => rw [hd] at h; exact gl_not hk hw hd (ih h kk)
      · cases h
theorem gl_pure (m : Nat) (l : List Nat) {K' : KV} (h : runPick P ops N m k K l = some K') (kk : GLk P ops (k + m) N K' I L T) : GLk P ops k N K I L T := by
  unfold runPick at h
  cases hr : runPure P ops N m k K with
  | none => rw [hr] at h; cases h
  | some K1 =>
    rw [hr] at h
    exact gl_run m hr (gl_pick l h kk)

/-! ### Calls -/
def callKV (P : Program) (ops : Array Oper) (k N : Nat) (K : KV) : Option (FuncId × Array Value) :=
  bif readyKV ops k N K && kvKnown K (opAt ops k) then enterOf P (execOp (kvVal K) (opAt ops k)) else none
theorem gl_call {f : FuncId} {args : Array Value} {R : Value → Imm → Own → Prop} (h : callKV P ops k N K = some (f, args)) (hc : CallsTo P f args I L R)
    (kk : ∀ v I' L', I ≤ I' → R v I' L' → GLk P ops (k + 1) N (kvPut K (opAt ops k).dst v) I' L' T) : GLk P ops k N K I L T := by
  unfold callKV at h
  cases hb : (readyKV ops k N K && kvKnown K (opAt ops k)) with
  | false => rw [hb] at h; cases h
  | true =>
    rw [hb] at h
    simp only [cond_true] at h
    simp only [Bool.and_eq_true] at hb
    obtain ⟨hk, hw, hd⟩ := readyKV_spec hb.1
    intro t ht W hW
    rw [drop_at hk]
    unfold wpList
    rw [if_pos (kvWanted_sound ht hw)]
    refine .inl ?_
    unfold Oper.wp
    rw [kvKnown_exec ht hb.2, enterOf_sound h W]
    refine (hc W hW).mono ?_
    rintro e W' ⟨v, I', L', rfl, hI, hh, hr⟩
    show wpList P ops _ _ (Act.put ⟨t, []⟩ (opAt ops k).dst v) W'
    rw [act_put_nil]
    exact kk v I' L' hI hr _ (ht.put _ _ hd) W' hh

/-! ### Function values -/
def Callable (P : Program) (f : FuncId) : Prop := ∃ fn, P.funcs[f]? = some fn ∧ (fn.name == "runtime.NumGoroutine") = false ∧ fn.body.isNone = false
theorem Callable.run {f : FuncId} (h : Callable P f) (args : Array Value) (W : World) : (callFunc f args).run P W = .ok (.enter f args) W := by
  obtain ⟨fn, h1, h2, h3⟩ := h
  simp only [callFunc, Sem.run_bind, run_program, Result.andThen_ok, h1, h2, h3, Bool.false_eq_true, if_false, Sem.run_pure]
def CallsV (P : Program) (fv : Value) (args : List Value) (I : Imm) (L : Own) (R : Value → Imm → Own → Prop) : Prop :=
  ∃ f first cap, fv = .func (.func f) first cap ∧ Callable P f ∧ CallsTo P f (first ++ args.toArray ++ cap) I L R
def kvOps (K : KV) : List Operand → Option (List Value)
  | [] => some []
  | x :: r => match kvOp K x, kvOps K r with
    | some v, some l => some (v :: l)
    | _, _ => none
def callvKV (ops : Array Oper) (k N : Nat) (K : KV) : Option (Value × List Value) :=
  bif readyKV ops k N K then
    match (opAt ops k).op with
    | .call c => match c.callee with
      | .value x => match kvOp K x, kvOps K c.args.toList with
        | some v, some l => some (v, l)
        | _, _ => none
      | _ => none
    | _ => none
  else none
theorem kvOps_map {N : Nat} {K : KV} {t : Array Value} (h : Knows N K t) : ∀ {xs : List Operand} {l : List Value}, kvOps K xs = some l → xs.map (Act.mk t []).eval = l := by
  intro xs
  induction xs with
  | nil => intro l h; simp only [kvOps, Option.some.injEq] at h; subst h; rfl
  | cons x xs ih =>
    intro l hl
    simp only [kvOps] at hl
    split at hl
    · rename_i v l' hv hl'
      simp only [Option.some.injEq] at hl
      subst hl
      rw [List.map_cons, h.op hv, ih hl']
    · cases hl
theorem gl_callv {fv : Value} {args : List Value} {R : Value → Imm → Own → Prop} (h : callvKV ops k N K = some (fv, args)) (hc : CallsV P fv args I L R)
    (kk : ∀ v I' L', I ≤ I' → R v I' L' → GLk P ops (k + 1) N (kvPut K (opAt ops k).dst v) I' L' T) : GLk P ops k N K I L T := by
  unfold callvKV at h
  cases hb : readyKV ops k N K with
  | false => rw [hb] at h; cases h
  | true =>
    rw [hb] at h
    simp only [cond_true] at h
    split at h <;> try (cases h; done)
    rename_i c ho
    split at h <;> try (cases h; done)
    rename_i x hx
    split at h <;> try (cases h; done)
    rename_i v l hv hl
    simp only [Option.some.injEq, Prod.mk.injEq] at h
    obtain ⟨rfl, rfl⟩ := h
    obtain ⟨hk, hw, hd⟩ := readyKV_spec hb
    obtain ⟨f, first, cap, rfl, hcall, hcc⟩ := hc
    intro t ht W hW
    rw [drop_at hk]
    unfold wpList
    rw [if_pos (kvWanted_sound ht hw)]
    refine .inl ?_
    unfold Oper.wp
    have hargs : c.args.map (Act.mk t []).eval = l.toArray := by
      have := kvOps_map ht hl
      rw [← Array.toList_inj, Array.toList_map]; exact this
    have hrun : (execOp (Act.mk t []).eval (opAt ops k)).run P W = .ok (.enter f (first ++ l.toArray ++ cap)) W := by
      simp only [execOp, ho, resolve, hx, ht.op hv, Deferred.ofValue, hargs, Sem.run_bind, Sem.run_pure, Result.andThen_ok, invoke]
      exact hcall.run _ _
    rw [hrun]
    refine (hcc W hW).mono ?_
    rintro e W' ⟨v, I', L', rfl, hI, hh, hr⟩
    show wpList P ops _ _ (Act.put ⟨t, []⟩ (opAt ops k).dst v) W'
    rw [act_put_nil]
    exact kk v I' L' hI hr _ (ht.put _ _ hd) W' hh

/-! ### Strings -/
def byteAt (s : ByteArray) (i : Int) : Int := ((s.data[i.toNat]?).getD 0).toNat
theorem byteAt_range (s : ByteArray) (i : Int) : 0 ≤ byteAt s i ∧ byteAt s i < 256 := by
  unfold byteAt
  have := ((s.data[i.toNat]?).getD 0).toNat_lt
  omega
theorem ba_get (s : ByteArray) (i : Nat) (h : i < s.size) : s[i]? = some ((s.data[i]?).getD 0) := by
  have h' : i < s.data.size := h
  rw [getElem?_pos s i h]
  simp only [Array.getElem?_eq_getElem h', Option.getD_some]
  rfl

theorem run_underlying' {t : TypeId} {d : TypeDesc} (h : P.underlying t = some d) (W : World) : (underlying t).run P W = .ok d W := by
  simp [underlying, h]

theorem gl_index {T' : TypeId} {xs xi : Operand} {b : ByteArray} {kd : IntKind} {n : Int} (ho : (opAt ops k).op = .index T' xs xi) (h : readyKV ops k N K = true)
    (hs : kvOp K xs = some (.string b)) (hi : kvOp K xi = some (.int kd n)) (hu : P.underlying T' = some .string) (h0 : 0 ≤ n) (h1 : n < (b.size : Int))
    (kk : GLk P ops (k + 1) N (kvPut K (opAt ops k).dst (.int .u8 (byteAt b n))) I L T) : GLk P ops k N K I L T := by
  refine gl_step h (fun t ht W hW => ?_) kk
  have hb : b[n.toNat]? = some ((b.data[n.toNat]?).getD 0) := ba_get b n.toNat (by omega)
  simp [execOp, ho, ht.op hs, ht.op hi, Instr.index, asIntOf, run_underlying' hu, h0, hb, byteAt]

def kvBound (K : KV) (o : Option Operand) (d : Int) : Option Int :=
  match o with
  | none => some d
  | some x => match kvOp K x with
    | some (.int _ n) => some n
    | _ => none
theorem kvBound_spec {o : Option Operand} {d n : Int} (h : kvBound K o d = some n) : (o = none ∧ n = d) ∨ ∃ x kd, o = some x ∧ kvOp K x = some (.int kd n) := by
  unfold kvBound at h
  split at h
  · exact .inl ⟨rfl, by simpa using h.symm⟩
  · rename_i x
    split at h
    · rename_i kd m hx
      simp only [Option.some.injEq] at h
      subst h
      exact .inr ⟨x, kd, rfl, hx⟩
    · cases h
theorem gl_slice {T' : TypeId} {xs : Operand} {lo hi : Option Operand} {b : ByteArray} {l r : Int} (ho : (opAt ops k).op = .slice T' xs lo hi none) (h : readyKV ops k N K = true)
    (hs : kvOp K xs = some (.string b)) (hu : P.underlying T' = some .string)
    (hl : kvBound K lo 0 = some l) (hr : kvBound K hi b.size = some r)
    (h0 : 0 ≤ l) (h1 : l ≤ r) (h2 : r ≤ (b.size : Int))
    (kk : GLk P ops (k + 1) N (kvPut K (opAt ops k).dst (.string (b.extract l.toNat r.toNat))) I L T) : GLk P ops k N K I L T := by
  refine gl_step h (fun t ht W hW => ?_) kk
  have h3 : (r.toNat : Int) = r := by omega
  rcases kvBound_spec hl with ⟨rfl, rfl⟩ | ⟨x, kx, rfl, hx⟩
  · rcases kvBound_spec hr with ⟨rfl, rfl⟩ | ⟨y, ky, rfl, hy⟩
    · simp [execOp, ho, ht.op hs, Instr.sliceAt, Instr.slice, run_underlying' hu, Instr.sliceBounds]
    · simp [execOp, ho, ht.op hs, ht.op hy, Instr.sliceAt, Instr.slice, run_underlying' hu, Instr.sliceBounds, Instr.sliceBound, asIntOf, show 0 ≤ r by omega, h2]
  · rcases kvBound_spec hr with ⟨rfl, rfl⟩ | ⟨y, ky, rfl, hy⟩
    · simp [execOp, ho, ht.op hs, ht.op hx, Instr.sliceAt, Instr.slice, run_underlying' hu, Instr.sliceBounds, Instr.sliceBound, asIntOf, h0, h1]
    · simp [execOp, ho, ht.op hs, ht.op hx, ht.op hy, Instr.sliceAt, Instr.slice, run_underlying' hu, Instr.sliceBounds, Instr.sliceBound, asIntOf, h0, h1, h2, h3, show 0 ≤ r by omega]
end

/-! ### The end of a function -/
def resOf (t : Array Value) : ResultVar → Sem Value
  | .tmp i => pure (t.getD i undef)
  | .cell a ty => do loadVar ty (← asAddr (t.getD a undef))
theorem results_eq (fn : Func) (t : Array Value) : results fn t = (do let vs ← fn.results.mapM (resOf t); pure (if h : vs.size = 1 then vs[0] else .tuple vs)) := rfl
theorem packed_eq (vs : Array Value) : (if h : vs.size = 1 then vs[0] else Value.tuple vs) = packed vs.toList := by
  unfold packed
  split
  · rename_i hs
    have : vs.toList.length = 1 := by simpa using hs
    match hv : vs.toList, this with
    | [x], _ =>
      simp only
      have := congrArg (fun l => l[0]?) hv
      simpa [hs] using this
  · rename_i hs
    match hv : vs.toList with
    | [x] => exact absurd (by simpa using congrArg List.length hv) hs
    | [] => simp [← hv]
    | _ :: _ :: _ => simp [← hv]
/-- What a list of result variables comes to. -/
inductive ResOk (P : Program) (K : KV) (I : Imm) (L : Own) : List ResultVar → List Value → Prop
  | nil : ResOk P K I L [] []
  | tmp {i : Nat} {v : Value} {rs : List ResultVar} {l : List Value} (h : kvGet K i = some v) (k : ResOk P K I L rs l) : ResOk P K I L (.tmp i :: rs) (v :: l)
  | cell {i ty : Nat} {a : Addr} {v : Value} {rs : List ResultVar} {l : List Value} (h : kvGet K i = some (.pointer (some a))) (hv : ∀ W, Holds I L W → (loadVar ty a).run P W = .ok v W)
      (k : ResOk P K I L rs l) : ResOk P K I L (.cell i ty :: rs) (v :: l)
theorem results_packed {P : Program} {fn : Func} {N : Nat} {K : KV} {I : Imm} {L : Own} {t : Array Value} {l : List Value} (h : Knows N K t) (hr : ResOk P K I L fn.results.toList l) (W : World) (hW : Holds I L W) :
    (results fn t).run P W = .ok (packed l) W := by
  have key : ∀ (rs : List ResultVar) (l : List Value), ResOk P K I L rs l → (rs.mapM (resOf t)).run P W = .ok l W := by
    intro rs l hr
    induction hr with
    | nil => simp
    | @tmp i v rs l hv _ ih =>
      have hv' := h.kv _ (kvGet_mem hv)
      rw [List.mapM_cons]
      simp only [Sem.run_bind, resOf, Sem.run_pure, Result.andThen_ok, ih, Array.getD_eq_getD_getElem?, hv', Option.getD_some]
    | @cell i ty a v rs l ha hv _ ih =>
      have ha' := h.kv _ (kvGet_mem ha)
      rw [List.mapM_cons]
      simp only [Sem.run_bind, resOf, Sem.run_pure, Result.andThen_ok, ih, Array.getD_eq_getD_getElem?, ha', Option.getD_some, asAddr, hv W hW]
  have h1 := key fn.results.toList l hr
  rw [results_eq]
  rw [← Array.toList_mapM] at h1
  simp only [Sem.run_map] at h1
  simp only [Sem.run_bind]
  cases hm : (Array.mapM (resOf t) fn.results).run P W with
  | halt x w' => rw [hm] at h1; simp at h1
  | ok vs w' =>
    rw [hm] at h1
    simp only [Result.andThen_ok, Result.ok.injEq] at h1
    obtain ⟨rfl, rfl⟩ := h1
    simp only [Result.andThen_ok, Sem.run_pure, packed_eq]

theorem ge_result {P : Program} {fn : Func} {N : Nat} {K : KV} {I0 I : Imm} {L : Own} {R : Value → Imm → Own → Prop} {e : Exit} (he : (match e with | .normal => True | .ret => True | _ => False))
    {l : List Value} (hr : ResOk P K I L fn.results.toList l) (hI : I0 ≤ I) (hR : R (packed l) I L) : GE e N K I L (bodyQ P fn I0 R) :=
  fun t ht => ⟨he, hI, packed l, fun W hW => results_packed ht hr W hW, hR⟩
end Go.GB
