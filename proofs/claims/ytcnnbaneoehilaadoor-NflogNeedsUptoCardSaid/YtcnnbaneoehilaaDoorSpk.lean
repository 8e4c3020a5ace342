/- What is spoilt: rows of slices whose own rows are new. -/
import Derived.Test.YtcnnbaneoehilaaDoorGB8k
import Derived.Lib.Bytealg
import Derived.Laws.StructEq
import Derived.Scope
import Derived.Lib.SliceRun
import Derived.Lib.Overlaps
import Derived.Laws.MakeOwn
import Derived.Below
import Derived.Shelf.SlSortCmp.NoneTotal
import Derived.Lib.UnsafeStr
import Derived.WideLaws
import Derived.Shelf.Strconv.Itoa4
import Derived.Test.YtcnnbaneoehilaaDoorChecked
/- Calls of functions without a body; structs that are compared; labels and scopes; slices.Clone. -/
set_option linter.unusedVariables false
set_option linter.unusedSimpArgs false
namespace Go.GB

section
variable {P : Program} {c : Code} {ops : Array Oper} {k N : Nat} {K : KV} {I : Imm} {L : Own} {T : TPost} {Q : Post}

/-! ### 1. Functions without a body -/
def calleeFn (K : KV) (o : Oper) : Option (FuncId × List Value) := match o.op with
  | .call c => match c.callee with
    | .value x => match kvOp K x, kvOps K c.args.toList with
      | some (.func (.func f) a b), some l => some (f, (a ++ l.toArray ++ b).toList)
      | _, _ => none
    | _ => none
  | _ => none
theorem gl_extern {f : FuncId} {l : List Value} {v : Value} (h : readyKV ops k N K = true) (hc : calleeFn K (opAt ops k) = some (f, l)) (hr : ∀ W, Holds I L W → (callFunc f l.toArray).run P W = .ok (.value v) W)
    (kk : GLk P ops (k + 1) N (kvPut K (opAt ops k).dst v) I L T) : GLk P ops k N K I L T := by
  refine gl_step h (fun t ht W hW => ?_) kk
  unfold calleeFn at hc
  split at hc <;> try (cases hc; done)
  rename_i c ho
  split at hc <;> try (cases hc; done)
  rename_i x hx
  split at hc <;> try (cases hc; done)
  rename_i g a b l' hv hl
  simp only [Option.some.injEq, Prod.mk.injEq] at hc
  obtain ⟨rfl, rfl⟩ := hc
  have hargs : c.args.map (Act.mk t []).eval = l'.toArray := by
    have := kvOps_map ht hl
    rw [← Array.toList_inj, Array.toList_map]; exact this
  have := hr W hW
  simp only [execOp, ho, resolve, hx, ht.op hv, Deferred.ofValue, hargs, Sem.run_bind, Sem.run_pure, Result.andThen_ok, invoke]
  have e1 : (a ++ l'.toArray ++ b).toList.toArray = a ++ l'.toArray ++ b := by simp
  rw [e1] at this
  exact this
theorem gl_cmpstring {f : FuncId} {fn : Func} {a b : ByteArray} (hf : P.funcs[f]? = some fn) (h1 : (fn.name == "runtime.NumGoroutine") = false) (h2 : fn.body.isNone = true) (h3 : Extern.findNext fn = none) (h4 : Extern.find fn = some Extern.BytealgCompare.compare)
    (h : readyKV ops k N K = true) (hc : calleeFn K (opAt ops k) = some (f, [.string a, .string b]))
    (kk : GLk P ops (k + 1) N (kvPut K (opAt ops k).dst (.int .i64 (Lib.compareBytes a.data.toList b.data.toList))) I L T) : GLk P ops k N K I L T :=
  gl_extern h hc (fun W _ => by rw [run_callFunc_extern hf h1 h2 h3 h4, Lib.run_compareString]; rfl) kk

/-! ### 2. Structs that are compared -/
def eqVal (P : Program) (t : TypeId) (x y : Value) : Option Bool := match P.underlying t, x, y with
  | some .bool, .bool a, .bool b => some (a == b)
  | some (.int _), .int k a, .int k' b => bif decide (k = k') then some (a == b) else none
  | some .string, .string a, .string b => some (a.toList == b.toList)
  | _, _, _ => none
theorem eqVal_run {t : TypeId} {x y : Value} {b : Bool} (h : eqVal P t x y = some b) (d : Nat) (W : World) : (Op.equalIn (d + 1) t x y).run P W = .ok b W := by
  unfold eqVal at h
  split at h
  · rename_i hu
    simp only [Option.some.injEq] at h
    rw [run_equalIn_bool' W d t _ _ hu, h]
  · rename_i k a k' b' hu
    cases hk : decide (k = k') with
    | false => rw [hk] at h; cases h
    | true =>
      rw [hk] at h
      simp only [cond_true, Option.some.injEq] at h
      have := of_decide_eq_true hk
      subst this
      rw [run_equalIn_int W d t _ _ _ _ hu, h]
  · rename_i hu
    simp only [Option.some.injEq] at h
    rw [run_equalIn_string W d t _ _ hu, h]
  · cases h
def eqField (P : Program) (xs ys : Array Value) (f : Field) : Option Bool :=
  bif decide (f.name ≠ "_") then match aggInfo P f.type, xs[f.offset]?, ys[f.offset]? with
    | some (false, _), some a, some b => eqVal P f.type a b
    | _, _, _ => none
  else none
theorem part_one {t : TypeId} {n : Nat} (h : aggInfo P t = some (false, n)) {cs : Array Value} {o : Nat} {v : Value} (hc : cs[o]? = some v) (W : World) : (part t cs o).run P W = .ok v W := by
  simp [part, (aggInfo_spec h).1, hc]
def eqFieldsV (P : Program) (xs ys : Array Value) : List Field → Option Bool
  | [] => some true
  | [f] => eqField P xs ys f
  | f :: g :: fs => match eqField P xs ys f, eqFieldsV P xs ys (g :: fs) with
    | some a, some b => some (a && b)
    | _, _ => none
theorem eqField_run {xs ys : Array Value} {f : Field} {b : Bool} (h : eqField P xs ys f = some b) (d : Nat) (fs : List Field) (W : World) :
    (Op.eqFields (d + 1) xs ys (f :: fs)).run P W = if b = false then .ok false W else (Op.eqFields (d + 1) xs ys fs).run P W := by
  unfold eqField at h
  cases hn : decide (f.name ≠ "_") with
  | false => rw [hn] at h; cases h
  | true =>
    rw [hn] at h
    simp only [cond_true] at h
    have hn' : f.name ≠ "_" := of_decide_eq_true hn
    split at h <;> try (cases h; done)
    rename_i n a b' hT ha hb
    simp only [Op.eqFields, if_pos hn', Sem.run_bind, part_one hT ha, part_one hT hb, Result.andThen_ok, eqVal_run h]
    cases b <;> simp
theorem eqFieldsV_run (d : Nat) (W : World) {xs ys : Array Value} : ∀ (fs : List Field) (b : Bool), eqFieldsV P xs ys fs = some b → (Op.eqFields (d + 1) xs ys fs).run P W = .ok b W
  | [], b, h => by simp only [eqFieldsV, Option.some.injEq] at h; subst h; simp [Op.eqFields]
  | [f], b, h => by
    rw [eqField_run h]
    cases b <;> simp [Op.eqFields]
  | f :: g :: fs, b, h => by
    simp only [eqFieldsV] at h
    split at h <;> try (cases h; done)
    rename_i a b' ha hb
    simp only [Option.some.injEq] at h
    subst h
    rw [eqField_run ha, eqFieldsV_run d W (g :: fs) b' hb]
    cases a <;> simp
def eqAgg (P : Program) (t : TypeId) (xs ys : Array Value) : Option Bool :=
  match P.underlying t with
  | some (.struct fs) => bif P.stoodInHeld t || P.eqGuardType P.depth t then none else eqFieldsV P xs ys fs.toList
  | _ => none
theorem gl_eqAgg {n : Bool} {t t' : TypeId} {x y : Operand} {cx cy : Array Value} {b : Bool} (ho : (opAt ops k).op = .binOp (bif n then .neq else .eql) t x y t') (h : readyKV ops k N K = true)
    (hx : kvOp K x = some (.agg cx)) (hy : kvOp K y = some (.agg cy)) (hb : eqAgg P t cx cy = some b)
    (kk : GLk P ops (k + 1) N (kvPut K (opAt ops k).dst (.bool (bif n then !b else b))) I L T) : GLk P ops k N K I L T := by
  refine gl_step h (fun tm ht W hW => ?_) kk
  unfold eqAgg at hb
  split at hb <;> try (cases hb; done)
  rename_i fs hu
  cases hs : (P.stoodInHeld t || P.eqGuardType P.depth t) with
  | true => rw [hs] at hb; cases hb
  | false =>
    rw [hs] at hb
    simp only [cond_false] at hb
    simp only [Bool.or_eq_false_iff] at hs
    have hf : P.fieldsOf t = fs := by simp [Program.fieldsOf, hu]
    have h1 : (Op.equalIn 10000 t (.agg cx) (.agg cy)).run P W = .ok b W := by
      rw [run_equalIn_struct W 9999 t cx cy (by rw [hf]; exact hu) hs.1, hf]
      exact eqFieldsV_run 9998 W _ _ hb
    have h2 : ∀ op, (eqGuard op t x y (.agg cx) (.agg cy)).run P W = .ok () W := fun op => run_eqGuard_agg W op t x y cx cy hs.2
    cases n
    · simp only [cond_false] at ho ⊢
      simp only [execOp, ho, ht.op hx, ht.op hy, Sem.run_bind, h2, Result.andThen_ok, run_eql_struct, h1, Sem.run_pure]
    · simp only [cond_true] at ho ⊢
      simp only [execOp, ho, ht.op hx, ht.op hy, Sem.run_bind, h2, Result.andThen_ok, run_neq_struct, h1, Sem.run_pure]

/-! ### 3. Labels and scopes -/
/-! ### 4. An empty slice that is made -/
theorem gl_buildSlice0 {T' e n : Nat} (ho : (opAt ops k).op = .buildSlice T' 0 #[]) (h : readyKV ops k N K = true) (he : sliceElem P T' = some (e, n))
    (kk : ∀ g, GLk P ops (k + 1) N (kvPut K (opAt ops k).dst (.slice (some ⟨g, 0, none⟩) 0 0)) I ((g, .cells #[] e) :: L) T) : GLk P ops k N K I L T := by
  refine gl_gen h fun t ht W hW => ⟨_, I, _, _, ?_, hW.new (.cells #[] e), kk W.heap.size⟩
  obtain ⟨hu1, hu2⟩ := sliceElem_spec he
  simp [execOp, ho, Instr.buildSlice, run_underlying' hu1, hu2, Instr.fill, newRow, show (Array.map (fun _ : Nat => (default : Value)) (Array.range 0)) = #[] from by simp]
theorem OwnS.empty {α : Type} (d : Kd α) (e : TypeId) (I : Imm) (g : Nat) : OwnS d e I (some ⟨g, 0, none⟩) 0 ([] : List α) [(g, .cells #[] e)] :=
  .inr ⟨g, #[], (0, 0), rfl, rfl, FreeOf.zero _, by simp, by simp, ⟨fun i x h => by simp at h⟩, by simp [maxLen']⟩
/-- A slice that is compared with nil. -/
def isSliceT (P : Program) (t : TypeId) : Bool := match P.underlying t with | some (.slice _) => true | _ => false
theorem gl_eqNil {A : Option Addr} {t t' : TypeId} {x y : Operand} {len c : Nat} {a b : Nat} (ho : (opAt ops k).op = .binOp .eql t x y t') (h : readyKV ops k N K = true)
    (hx : kvOp K x = some (.slice A len c)) (hy : kvOp K y = some (.slice none a b)) (hu : isSliceT P t = true)
    (kk : GLk P ops (k + 1) N (kvPut K (opAt ops k).dst (.bool A.isNone)) I L T) : GLk P ops k N K I L T := by
  refine gl_step h (fun tm ht W hW => ?_) kk
  unfold isSliceT at hu
  split at hu <;> try (cases hu; done)
  rename_i e hu1
  have h2 : (eqGuard .eql t x y (.slice A len c) (.slice none a b)).run P W = .ok () W := by simp [eqGuard]
  have h3 := Lib.run_eql_slice_nil (P := P) W t e A len c a b hu1
  simp only [execOp, ho, ht.op hx, ht.op hy, Sem.run_bind, h2, h3, Result.andThen_ok, Sem.run_pure]
theorem RepS.isNil {α : Type} {d : Kd α} {A : Option Addr} {c : Nat} {xs : List α} (h : RepS d I A c xs) (hA : A.isNone = true) : xs = [] := by
  cases xs with
  | nil => rfl
  | cons x xs =>
    obtain ⟨a, cs, rfl, _⟩ := h.at_ 0 x rfl
    cases hA
theorem clone_nil {α : Type} {xs : List α} {r : List α} (h : (Option.bind (app ([] : List α) xs) fun zs => some zs) = some r) (hx : xs = []) : some ([] : List α) = some r := by
  subst hx
  exact h
end
end Go.GB

/- Arrays that stay: tables. -/
set_option linter.unusedVariables false
set_option linter.unusedSimpArgs false
namespace Go.GB
section
variable {P : Program} {ops : Array Oper} {k N : Nat} {K : KV} {I : Imm} {L : Own} {T : TPost}
end
end Go.GB

/- Elements of owned rows that are stored; results in cells at rest. -/
set_option linter.unusedVariables false
set_option linter.unusedSimpArgs false
namespace Go.GB
def putL : List Value → Nat → List Value → List Value
  | [], _, _ => []
  | c :: cs, o + 1, vs => c :: putL cs o vs
  | c :: cs, 0, [] => c :: cs
  | _ :: cs, 0, v :: vs => v :: putL cs 0 vs
theorem putL_get : ∀ (cs : List Value) (o : Nat) (vs : List Value), o + vs.length ≤ cs.length → ∀ j, (putL cs o vs)[j]? = if o ≤ j ∧ j < o + vs.length then vs[j - o]? else cs[j]?
  | [], o, vs, h, j => by
    have : vs = [] := List.length_eq_zero_iff.1 (by simp only [List.length_nil] at h; omega)
    subst this
    rw [if_neg (by simp)]; rfl
  | c :: cs, o + 1, vs, h, j => by
    simp only [List.length_cons] at h
    cases j with
    | zero => rw [if_neg (by omega)]; rfl
    | succ j =>
      simp only [putL, List.getElem?_cons_succ]
      rw [putL_get cs o vs (by omega) j]
      by_cases hj : o ≤ j ∧ j < o + vs.length
      · rw [if_pos hj, if_pos (by omega), show j + 1 - (o + 1) = j - o from by omega]
      · rw [if_neg hj, if_neg (by omega)]
  | c :: cs, 0, [], h, j => by rw [if_neg (by simp)]; rfl
  | c :: cs, 0, v :: vs, h, j => by
    simp only [List.length_cons] at h
    cases j with
    | zero => rw [if_pos (by simp)]; rfl
    | succ j =>
      simp only [putL, List.getElem?_cons_succ, List.length_cons]
      rw [putL_get cs 0 vs (by omega) j]
      by_cases hj : 0 ≤ j ∧ j < 0 + vs.length
      · rw [if_pos hj, if_pos (by omega)]; simp
      · rw [if_neg hj, if_neg (by omega)]
def lset {α : Type} (xs : List α) (i : Int) (y : α) : List α := xs.set i.toNat y
section
variable {P : Program} {ops : Array Oper} {k N : Nat} {K : KV} {I : Imm} {L : Own} {T : TPost}
theorem addr_add (g i j : Nat) : ((⟨g, 0, none⟩ : Addr).add i).add j = ⟨g, i + j, none⟩ := by
  rw [add_add]; unfold Addr.add; split
  · rename_i h; rw [h]
  · simp
/-- The address of an element of an owned row. -/
theorem gl_indexAddrW {α : Type} {d : Kd α} {T' e e' : TypeId} {xs xi : Operand} {A : Option Addr} {c : Nat} {l : List α} {x : α} {kd : IntKind} {i : Int} {C : Own} (hx : ix l i = some x) (hO : OwnS d e' I A c l C) (hU : Upd L C C L)
    (ho : (opAt ops k).op = .indexAddr T' xs xi) (h : readyKV ops k N K = true) (hs : kvOp K xs = some (.slice A l.length c)) (hi : kvOp K xi = some (.int kd i)) (hu : sliceElem P T' = some (e, d.n))
    (kk : ∀ p cs, d.R I x cs → AtL I L p cs → (∃ g, A = some ⟨g, 0, none⟩ ∧ p = (⟨g, 0, none⟩ : Addr).add (i.toNat * d.n)) → GLk P ops (k + 1) N (kvPut K (opAt ops k).dst (.pointer (some p))) I L T) : GLk P ops k N K I L T := by
  obtain ⟨h0, h1, h2⟩ := ix_some hx
  obtain ⟨hu1, hu2⟩ := sliceElem_spec hu
  rcases hO with ⟨rfl, _, _⟩ | ⟨g, cells, fz, rfl, rfl, _, h4, h5, h6, _⟩
  · simp at h2
  · obtain ⟨cs, hR, hr⟩ := h6.at_ _ x h2
    refine gl_step h (fun t ht W hW => ?_) (kk ((⟨g, 0, none⟩ : Addr).add (i.toNat * d.n)) cs hR (fun W hW j v hj => ?_) ⟨g, rfl, rfl⟩)
    · simp [execOp, ho, ht.op hs, ht.op hi, Instr.indexAt, asIntOf, run_underlying' hu1, h0, h1, hu2]
    · obtain ⟨R, h1', _⟩ := hW.upd hU
      have hg : W.heap[g]? = some (.cells cells e' fz) := h1'.mem (by simp)
      rw [addr_add]
      simp only [World.cell?, hg]
      simpa using hr j v hj
def storeOk (P : Program) (T' : TypeId) (v : Value) : Bool := match aggInfo P T' with
  | some (_, n) => Nat.beq v.cells.size n && v.cells.toList.all Value.oneCell'
  | none => false
/-- A part of an element of an owned row is stored. -/
theorem gl_storeE {α : Type} {d : Kd α} {T' e : TypeId} {xp xv : Operand} {A : Option Addr} {c : Nat} {xs : List α} {x y : α} {i : Int} {off : Nat} {p : Addr} {v : Value} {C : Own} (f : Own → Own)
    (hx : ix xs i = some x) (hO : OwnS d e I A c xs C) (hU : ∀ X, Upd L C X (f X)) (hp : ∃ g, A = some ⟨g, 0, none⟩ ∧ p = (⟨g, 0, none⟩ : Addr).add (i.toNat * d.n))
    (ho : (opAt ops k).op = .store T' xp xv) (h : readyKV ops k N K = true) (hk : kvOp K xp = some (.pointer (some (p.add off)))) (hv : kvOp K xv = some v) (hs : storeOk P T' v = true) (hd : (opAt ops k).dst = none)
    (hy : ∀ cs, d.R I x cs → d.R I y (putL cs off v.cells.toList)) (hn : Nat.ble (off + v.cells.size) d.n = true)
    (kk : ∀ C', OwnS d e I A c (lset xs i y) C' → GLk P ops (k + 1) N K I (f C') T) : GLk P ops k N K I L T := by
  obtain ⟨h0, h1, h2⟩ := ix_some hx
  have hn' := Nat.le_of_ble_eq_true hn
  rcases hO with ⟨rfl, _, _⟩ | ⟨g, cells, fz, rfl, rfl, hf, h4, h5, h6, h7⟩
  · simp at h2
  · obtain ⟨g', hg', rfl⟩ := hp
    cases hg'
    refine gl_gen_skip h fun t ht W hW => ?_
    obtain ⟨R, hR1, hR2⟩ := hW.upd (hU [(g, Obj.cells (putSeg cells (i.toNat * d.n + off) v.cells.toList) e fz)])
    unfold storeOk at hs
    split at hs <;> try (cases hs; done)
    rename_i b n hT
    simp only [Bool.and_eq_true, List.all_eq_true] at hs
    have hsz : v.cells.size = n := Nat.eq_of_beq_eq_true hs.1
    have hlen : i.toNat < xs.length := (List.getElem?_eq_some_iff.1 h2).1
    have hle : i.toNat * d.n + d.n ≤ c * d.n := by rw [← Nat.succ_mul]; exact Nat.mul_le_mul_right _ (by omega)
    have hfit : i.toNat * d.n + off + 0 + v.cells.toList.length ≤ cells.size := by rw [Array.length_toList]; omega
    obtain ⟨W', hs', hg, hne, ho1, ho2, ho3⟩ := store_block (P := P) (g := g) (t := e) (fz := fz) v.cells.toList (i.toNat * d.n + off) 0 cells W (hR1.mem (by simp)) hf hfit hs.2
    refine ⟨I, f [(g, Obj.cells (putSeg cells (i.toNat * d.n + off) v.cells.toList) e fz)], W', ?_, hR2 I W' ?_, ?_⟩
    · rw [addr_add] at hk
      simp [execOp, ho, ht.op hk, ht.op hv, Instr.storeAt, Instr.sureAddr, storeVar, (aggInfo_spec hT).2, hsz, hs']
    · exact Holds.set (A := []) hR1 _ (by simpa using hg) hne ho1 ho2 ho3
    · rw [hd]
      refine kk _ (.inr ⟨g, _, fz, rfl, rfl, by rw [FreeOf, putSeg_size]; exact hf, by rw [lset, List.length_set]; exact h4, by rw [putSeg_size]; exact h5, ⟨fun j z hz => ?_⟩, by rw [lset, List.length_set]; exact h7⟩)
      unfold lset at hz
      rw [List.getElem?_set] at hz
      have hget := putSeg_get v.cells.toList cells (i.toNat * d.n + off) (by omega)
      by_cases hj : i.toNat = j
      · subst hj
        rw [if_pos rfl, if_pos hlen] at hz
        cases hz
        obtain ⟨cs, hR, hr⟩ := h6.at_ _ x h2
        have hcl := d.len hR
        refine ⟨_, hy cs hR, fun q u hq => ?_⟩
        rw [putL_get cs off _ (by rw [Array.length_toList, hcl]; exact hn')] at hq
        rw [hget]
        by_cases hq' : off ≤ q ∧ q < off + v.cells.toList.length
        · rw [if_pos hq'] at hq
          rw [if_pos (by omega), show i.toNat * d.n + q - (i.toNat * d.n + off) = q - off from by omega]; exact hq
        · rw [if_neg hq'] at hq
          rw [if_neg (by omega)]; exact hr q u hq
      · rw [if_neg hj] at hz
        obtain ⟨cs, hR, hr⟩ := h6.at_ _ z hz
        have hcl := d.len hR
        refine ⟨cs, hR, fun q u hq => ?_⟩
        have hq' : q < d.n := by rw [← hcl]; exact (List.getElem?_eq_some_iff.1 hq).1
        rw [hget, if_neg ?_]
        · exact hr q u hq
        · rw [Array.length_toList]
          rintro ⟨ha, hb⟩
          rcases Nat.lt_or_gt_of_ne hj with hlt | hlt
          · have : (i.toNat + 1) * d.n ≤ j * d.n := Nat.mul_le_mul_right _ hlt
            rw [Nat.add_mul, Nat.one_mul] at this; omega
          · have : (j + 1) * d.n ≤ i.toNat * d.n := Nat.mul_le_mul_right _ hlt
            rw [Nat.add_mul, Nat.one_mul] at this; omega
theorem loadR_agg {T' : TypeId} {p : Addr} {cs : List Value} (hT : aggInfo P T' = some (true, cs.length)) (hr : RunAt I p cs) : ∀ W, Holds I L W → (loadVar T' p).run P W = .ok (.agg cs.toArray) W := fun W hW =>
  loadVar_agg hT (fun j v hj => hW.cell (hr j v hj))
end
end Go.GB

/- What slices.Insert needs: headers, copies, rows that grow by zeros, rows that do not overlap. -/
set_option linter.unusedVariables false
set_option linter.unusedSimpArgs false
namespace Go.GB
theorem wrap64 {x : Int} (h : -9223372036854775808 ≤ x) (h' : x ≤ 9223372036854775807) : IntKind.wrap .i64 x = x := by
  unfold IntKind.wrap
  simp [IntKind.bits, IntKind.signed]
  omega
theorem OwnS.lenc {α : Type} {d : Kd α} {e : TypeId} {I : Imm} {A : Option Addr} {c : Nat} {xs : List α} {C : Own} (h : OwnS d e I A c xs C) : xs.length ≤ c := by
  rcases h with ⟨rfl, rfl, _⟩ | ⟨g, cells, fz, _, _, _, h4, _⟩
  · exact Nat.le_refl _
  · exact h4
/-- The header of a part, from a on. -/
theorem head_eq {g a n c len b : Nat} (h : a < c) : Value.slice (if c = a then some (⟨g, 0, none⟩ : Addr) else (some (⟨g, 0, none⟩ : Addr)).map (·.add (a * n))) len b = .slice (some ⟨g, a * n, none⟩) len b := by
  rw [if_neg (by omega)]
  simp only [Option.map_some, Value.slice.injEq, Option.some.injEq, and_true]
  unfold Addr.add; split
  · rename_i h; rw [h]
  · simp
def linsert {α : Type} (xs : List α) (i : Int) (y : α) : Option (List α) := if 0 ≤ i ∧ i ≤ (xs.length : Int) ∧ xs.length + 1 ≤ maxLen' then some (xs.take i.toNat ++ y :: xs.drop i.toNat) else none
theorem linsert_some {α : Type} {xs r : List α} {i : Int} {y : α} (h : linsert xs i y = some r) : 0 ≤ i ∧ i ≤ (xs.length : Int) ∧ xs.length + 1 ≤ maxLen' ∧ r = xs.take i.toNat ++ y :: xs.drop i.toNat := by
  unfold linsert at h
  split at h
  · rename_i hc; cases h; exact ⟨hc.1, hc.2.1, hc.2.2, rfl⟩
  · cases h
theorem row_insert {α : Type} {d : Kd α} {I : Imm} {xs : List α} {y : α} {i : Nat} {vs : List Value} {cs cs' : Nat → Option Value} (hr : RowAt d I xs cs) (hy : d.R I y vs) (hi : i ≤ xs.length)
    (h1 : ∀ j, j < i * d.n → cs' j = cs j) (h2 : ∀ j, j < d.n → cs' (i * d.n + j) = vs[j]?) (h3 : ∀ j, j < (xs.length - i) * d.n → cs' ((i + 1) * d.n + j) = cs (i * d.n + j)) : RowAt d I (xs.take i ++ y :: xs.drop i) cs' := by
  refine ⟨fun k x hx => ?_⟩
  have hlen : (xs.take i).length = i := by rw [List.length_take]; omega
  by_cases hk : k < i
  · rw [List.getElem?_append_left (by omega), List.getElem?_take, if_pos hk] at hx
    obtain ⟨l, hl, hq⟩ := hr.at_ k x hx
    refine ⟨l, hl, fun j v hj => ?_⟩
    have hj' : j < d.n := by rw [← d.len hl]; exact (List.getElem?_eq_some_iff.1 hj).1
    have : (k + 1) * d.n ≤ i * d.n := Nat.mul_le_mul_right _ hk
    rw [Nat.add_mul, Nat.one_mul] at this
    rw [h1 _ (by omega)]; exact hq j v hj
  · rw [List.getElem?_append_right (by omega), hlen] at hx
    by_cases hk2 : k = i
    · subst hk2
      rw [Nat.sub_self] at hx
      cases hx
      refine ⟨vs, hy, fun j v hj => ?_⟩
      have hj' : j < d.n := by rw [← d.len hy]; exact (List.getElem?_eq_some_iff.1 hj).1
      rw [h2 j hj']; exact hj
    · rw [show k - i = (k - 1 - i) + 1 from by omega, List.getElem?_cons_succ, List.getElem?_drop, show i + (k - 1 - i) = k - 1 from by omega] at hx
      obtain ⟨l, hl, hq⟩ := hr.at_ _ x hx
      refine ⟨l, hl, fun j v hj => ?_⟩
      have hj' : j < d.n := by rw [← d.len hl]; exact (List.getElem?_eq_some_iff.1 hj).1
      have hkl : k - 1 < xs.length := (List.getElem?_eq_some_iff.1 hx).1
      have e1 : k * d.n + j = (i + 1) * d.n + ((k - 1 - i) * d.n + j) := by
        rw [← Nat.add_assoc, ← Nat.add_mul]; congr 2; omega
      have e2 : i * d.n + ((k - 1 - i) * d.n + j) = (k - 1) * d.n + j := by
        rw [← Nat.add_assoc, ← Nat.add_mul]; congr 2; omega
      have e3 : (k - 1 - i + 1) * d.n ≤ (xs.length - i) * d.n := Nat.mul_le_mul_right _ (by omega)
      rw [Nat.add_mul, Nat.one_mul] at e3
      rw [e1, h3 _ (by omega), e2]
      exact hq j v hj

theorem row_one {α : Type} {d : Kd α} {I : Imm} {xs : List α} {cells : Array Value} {c a m : Nat} (hr : RowAt d I xs (fun j => cells[j]?)) (hcs : cells.size = c * m) (hlc : xs.length ≤ c) (hn : d.n = m) :
    ∀ v ∈ (cells.toList.drop (a * m)).take ((xs.length - a) * m), v.oneCell' = true := by
  subst hn
  intro v hv
  obtain ⟨j, hj⟩ := List.getElem?_of_mem hv
  rw [List.getElem?_take] at hj
  split at hj <;> try (cases hj; done)
  rename_i hjl
  rw [List.getElem?_drop, Array.getElem?_toList] at hj
  have hn0 : 0 < d.n := by
    rcases Nat.eq_zero_or_pos d.n with h | h
    · rw [h] at hjl; simp at hjl
    · exact h
  have hlt : a * d.n + j < xs.length * d.n := by
    rcases Nat.lt_or_ge a xs.length with h | h
    · have : (xs.length - a) * d.n + a * d.n = xs.length * d.n := by rw [← Nat.add_mul]; congr 1; omega
      omega
    · rw [show xs.length - a = 0 from by omega] at hjl; simp at hjl
  have hk : (a * d.n + j) / d.n < xs.length := Nat.div_lt_of_lt_mul (by have h9 := hlt; rw [Nat.mul_comm xs.length d.n] at h9; exact h9)
  obtain ⟨l, hl, hq⟩ := hr.at_ ((a * d.n + j) / d.n) _ (List.getElem?_eq_getElem hk)
  have hmod : (a * d.n + j) % d.n < l.length := by rw [d.len hl]; exact Nat.mod_lt _ hn0
  have := hq _ _ (List.getElem?_eq_getElem hmod)
  rw [show (a * d.n + j) / d.n * d.n + (a * d.n + j) % d.n = a * d.n + j from by rw [Nat.mul_comm]; exact Nat.div_add_mod _ _] at this
  simp only [hj, Option.some.injEq] at this
  rw [this]
  exact d.one hl _ (List.getElem_mem hmod)

section
variable {P : Program} {ops : Array Oper} {k N : Nat} {K : KV} {I : Imm} {L : Own} {T : TPost}
theorem gl_have {φ : Prop} (hφ : ∀ W, Holds I L W → φ) (kk : φ → GLk P ops k N K I L T) : GLk P ops k N K I L T := fun t ht W hW => kk (hφ W hW) t ht W hW
theorem gl_sliceV {T' e n : Nat} {xs : Operand} {lo hi : Option Operand} {A : Option Addr} {len c : Nat} {a b : Int} (h0 : 0 ≤ a) (h1 : a ≤ b) (h2 : b ≤ (c : Int))
    (ho : (opAt ops k).op = .slice T' xs lo hi none) (h : readyKV ops k N K = true) (hs : kvOp K xs = some (.slice A len c)) (hu : sliceElem P T' = some (e, n))
    (hl : kvBound K lo 0 = some a) (hh : kvBound K hi len = some b) {v : Value} (hv : Value.slice (if c = a.toNat then A else A.map (·.add (a.toNat * n))) (b.toNat - a.toNat) (c - a.toNat) = v)
    (kk : GLk P ops (k + 1) N (kvPut K (opAt ops k).dst v) I L T) : GLk P ops k N K I L T := by
  subst hv
  obtain ⟨hu1, hu2⟩ := sliceElem_spec hu
  refine gl_step h (fun t ht W hW => ?_) kk
  have e1 : (a.toNat : Int) = a := by omega
  have e2 : (b.toNat : Int) = b := by omega
  rcases kvBound_spec hl with ⟨rfl, rfl⟩ | ⟨x, kx, rfl, hx'⟩
  · rcases kvBound_spec hh with ⟨rfl, rfl⟩ | ⟨y, ky, rfl, hy⟩
    · simp [execOp, ho, ht.op hs, Instr.sliceAt, Instr.slice, run_underlying' hu1, Instr.sliceBounds, hu2]
    · simp [execOp, ho, ht.op hs, ht.op hy, Instr.sliceAt, Instr.slice, run_underlying' hu1, Instr.sliceBounds, Instr.sliceBound, asIntOf, hu2, show 0 ≤ b by omega, h2]
  · rcases kvBound_spec hh with ⟨rfl, rfl⟩ | ⟨y, ky, rfl, hy⟩
    · simp [execOp, ho, ht.op hs, ht.op hx', Instr.sliceAt, Instr.slice, run_underlying' hu1, Instr.sliceBounds, Instr.sliceBound, asIntOf, hu2, h0, h1]
    · simp [execOp, ho, ht.op hs, ht.op hx', ht.op hy, Instr.sliceAt, Instr.slice, run_underlying' hu1, Instr.sliceBounds, Instr.sliceBound, asIntOf, hu2, show 0 ≤ b by omega, h2, e2, h0, h1]
/-- A copy into an owned block. -/
theorem gl_copyB {g off dLen dCap sLen m size : Nat} {tD tS e : TypeId} {sv : Value} {dx sx : Operand} {cells : Array Value} {e' : TypeId} {fz : Nat × Nat} {l : List Value} {L' : Own}
    (ho : (opAt ops k).op = .call { callee := .builtin .copy, args := #[dx, sx], argTypes := #[tD, tS] }) (h : readyKV ops k N K = true)
    (hd : kvOp K dx = some (.slice (some ⟨g, off, none⟩) dLen dCap)) (hs : kvOp K sx = some sv) (he : sliceElem P tD = some (e, size))
    (hlen : ∀ W, (Builtin.lenOf sv).run P W = .ok sLen W) (hm : Nat.min sLen dLen = m) (hl : ∀ W, Holds I L W → (Builtin.firstCells size m sv).run P W = .ok l.toArray W)
    (hU : Upd L [(g, .cells cells e' fz)] [(g, .cells (putSeg cells off l) e' fz)] L') (hf : FreeOf fz cells.size) (hfit : off + l.length ≤ cells.size) (h1 : ∀ v ∈ l, v.oneCell' = true)
    (kk : GLk P ops (k + 1) N (kvPut K (opAt ops k).dst (.int .i64 m)) I L' T) : GLk P ops k N K I L T := by
  refine gl_gen h fun t ht W hW => ?_
  obtain ⟨R, hR1, hR2⟩ := hW.upd hU
  obtain ⟨hu1, hu2⟩ := sliceElem_spec he
  obtain ⟨W', hs', hg, hne, ho1, ho2, ho3⟩ := store_block (P := P) (g := g) (t := e') (fz := fz) l off 0 cells W (hR1.mem (by simp)) hf (by omega) h1
  refine ⟨_, I, L', W', ?_, hR2 I W' (Holds.set (A := []) hR1 _ (by simpa using hg) hne ho1 ho2 ho3), kk⟩
  have hcopy : (Builtin.copy_ #[tD, tS] (opAt ops k).type #[.slice (some ⟨g, off, none⟩) dLen dCap, sv]).run P W = .ok (.int .i64 m) W' := by
    simp [Builtin.copy_, run_underlying' hu1, hlen, hm, hu2, hl W hW, hs', goInt]
  simp only [execOp, ho, resolve, invoke, builtin, Sem.run_bind, Sem.run_pure, Result.andThen_ok, List.map_toArray, List.map_cons, List.map_nil, ht.op hd, ht.op hs, hcopy]
/-- A row that is grown by zeros where there is no room. -/
theorem gl_appendZ {g i cnt c size : Nat} {t tx e : TypeId} {s x : Operand} {cells : Array Value} {e' : TypeId} {fz : Nat × Nat} {kx : IntKind}
    (ho : (opAt ops k).op = .call { callee := .builtin .append, args := #[s, x], argTypes := #[t, tx] }) (h : readyKV ops k N K = true)
    (hs : kvOp K s = some (.slice (some ⟨g, 0, none⟩) i c)) (hx : kvOp K x = some (.int .i64 (cnt : Int))) (htx : P.underlying tx = some (.int kx)) (he : sliceElem P t = some (e, size)) (hinfo : elemInfo P e size = true)
    (hg : c < i + cnt) (hc0 : 0 < cnt) (hmax : i + cnt ≤ maxLen') (hm : (g, Obj.cells cells e' fz) ∈ L) (hi : i * size ≤ cells.size)
    (kk : ∀ g2 cells2 c2, i + cnt ≤ c2 → cells2.size = c2 * size → (∀ j, j < i * size → cells2[j]? = cells[j]?) → GLk P ops (k + 1) N (kvPut K (opAt ops k).dst (.slice (some ⟨g2, 0, none⟩) (i + cnt) c2)) I ((g2, .cells cells2 e) :: L) T) : GLk P ops k N K I L T := by
  obtain ⟨hu1, hu2⟩ := sliceElem_spec he
  obtain ⟨ti, z, hti, hz, hsz, hzs, hby, hb0, hn0⟩ := elemInfo_spec hinfo
  unfold maxLen' at hmax
  refine gl_gen h fun tm ht W hW => ?_
  have hgW := hW.mem hm
  have hfit : ¬ (281474976710656 < Builtin.nextslicecap (i + cnt) c * ti.bytes) := by
    have h1 := nextslicecap_le (i + cnt) c hg
    have : Builtin.nextslicecap (i + cnt) c * ti.bytes ≤ (8 * (i + cnt) + 4096) * 8192 := Nat.mul_le_mul h1 hby
    omega
  have hcb : ¬ (281474976710656 < (cnt : Int) * (ti.bytes : Int)) := by
    have : cnt * ti.bytes ≤ 2147483648 * 8192 := Nat.mul_le_mul (by omega) hby
    have h2 : ((cnt * ti.bytes : Nat) : Int) = (cnt : Int) * (ti.bytes : Int) := by simp
    omega
  have hwrap : IntKind.wrap .i64 (cnt : Int) = cnt := by
    unfold IntKind.wrap
    simp [IntKind.bits, IntKind.signed]
    omega
  have hold : (Builtin.firstCells ti.size i (.slice (some ⟨g, 0, none⟩) i c)).run P W.drew = .ok (cells.toList.take (i * size)).toArray W.drew := by
    refine run_firstCells_some W.drew ti.size i ⟨g, 0, none⟩ i c _ (by rw [hsz, List.length_take, Array.length_toList]; omega) (fun j v hj => ?_)
    rw [List.getElem?_take] at hj
    split at hj
    · have hadd : (⟨g, 0, none⟩ : Addr).add j = ⟨g, j, none⟩ := by unfold Addr.add; split <;> simp_all
      rw [hadd]
      show World.cell? _ _ = _
      simp only [World.cell?, World.drew, hgW]
      simpa using hj
    · cases hj
  have hnz : ¬ (cnt * ti.size = 0) := by rw [hsz]; intro h; rcases Nat.mul_eq_zero.1 h with h | h <;> omega
  have hroom : ¬ (i + cnt ≤ c) := by omega
  have hneg : ¬ ((cnt : Int) < 0) := by omega
  have h63 : ¬ (9223372036854775807 < ((i : Int) + (cnt : Int))) := by omega
  have hr : (Builtin.append_ #[t, tx] (opAt ops k).type #[.slice (some ⟨g, 0, none⟩) i c, .int .i64 (cnt : Int)]).run P W =
      .ok (.slice (some ⟨W.heap.size, 0, none⟩) (i + cnt) (grownCap W (i + cnt) c e))
        (W.drew.alloc (.cells ((cells.toList.take (i * size)).toArray ++ Builtin.zeroCells z.cells cnt ++ Builtin.zeroCells z.cells (grownCap W (i + cnt) c e - (i + cnt))) e)) := by
    simp [Builtin.append_, run_underlying' hu1, run_underlying' htx, sizeOf, typeInfo, zeroValue, hti, hz, hroom, hneg, hcb, h63, hfit, hwrap, Question.forced, hold, newRow, grownCap, asInt, asIntOf, hnz]
  have hgc := grownCap_ge W (i + cnt) c e
  have htl : (cells.toList.take (i * size)).length = i * size := by rw [List.length_take, Array.length_toList]; omega
  refine ⟨_, I, _, _, ?_, (hW.drawn (W.drawn + 1)).new (.cells ((cells.toList.take (i * size)).toArray ++ Builtin.zeroCells z.cells cnt ++ Builtin.zeroCells z.cells (grownCap W (i + cnt) c e - (i + cnt))) e),
    kk W.heap.size _ (grownCap W (i + cnt) c e) hgc ?_ (fun j hj => ?_)⟩
  · simp only [execOp, ho, resolve, invoke, builtin, Sem.run_bind, Sem.run_pure, Result.andThen_ok, List.map_toArray, List.map_cons, List.map_nil, ht.op hs, ht.op hx, hr]
    rfl
  · simp only [Array.size_append, size_zeroCells, hzs, List.size_toArray, htl]
    rw [← Nat.add_mul, ← Nat.add_mul]; congr 1; omega
  · rw [Array.getElem?_append_left (by simp only [Array.size_append, List.size_toArray, htl]; omega), Array.getElem?_append_left (by simp only [List.size_toArray, htl]; exact hj)]
    simp only [List.getElem?_toArray, List.getElem?_take, if_pos hj, Array.getElem?_toList]
theorem gl_overlaps {f : FuncId} {fn : Func} {tS tR e size : Nat} {g1 g2 o1 o2 la ca lb cb : Nat} {c1 c2 : Array Value} {t1 t2 : TypeId} {fz : Nat × Nat} (hf : P.funcs[f]? = some fn) (h1 : (fn.name == "runtime.NumGoroutine") = false) (h2 : fn.body.isNone = true) (h3 : Extern.findNext fn = none) (h4 : Extern.find fn = some (Extern.SlicesOverlaps.overlaps #[tS, tS] #[tR]))
    (h : readyKV ops k N K = true) (hc : calleeFn K (opAt ops k) = some (f, [.slice (some ⟨g1, o1, none⟩) la ca, .slice (some ⟨g2, o2, none⟩) lb cb])) (he : sliceElem P tS = some (e, size))
    (hm1 : (g1, Obj.cells c1 t1) ∈ L) (hm2 : (g2, Obj.cells c2 t2 fz) ∈ L) (hne : g1 ≠ g2) (hz : c2.size ≠ 0)
    (kk : GLk P ops (k + 1) N (kvPut K (opAt ops k).dst (.bool false)) I L T) : GLk P ops k N K I L T := by
  obtain ⟨hu1, hu2⟩ := sliceElem_spec he
  refine gl_extern h hc (fun W hW => ?_) kk
  have e1 := hW.mem hm1
  have e2 := hW.mem hm2
  rw [run_callFunc_extern hf h1 h2 h3 h4]
  have := Lib.run_overlaps_apart (P := P) W tS tR e hu1 size hu2 ⟨g1, o1, none⟩ ⟨g2, o2, none⟩ la ca lb cb hne t1 t2 c1.size c2.size (by simp [World.shape?, e1]) (by simp [World.shape?, e2]) hz (by simp [World.frozen?, e1]) (by simp [World.frozen?, e1])
  simp only [show ([Value.slice (some ⟨g1, o1, none⟩) la ca, .slice (some ⟨g2, o2, none⟩) lb cb] : List Value).toArray = #[.slice (some ⟨g1, o1, none⟩) la ca, .slice (some ⟨g2, o2, none⟩) lb cb] from rfl, this]
  rfl
end
end Go.GB

/- Strings put together; division. -/
set_option linter.unusedVariables false
set_option linter.unusedSimpArgs false
namespace Go.GB
section
variable {P : Program} {ops : Array Oper} {k N : Nat} {K : KV} {I : Imm} {L : Own} {T : TPost}
end
end Go.GB

/- Rows that are made; copies into rows; the head of a row. -/
set_option linter.unusedVariables false
set_option linter.unusedSimpArgs false
namespace Go.GB
section
variable {P : Program} {ops : Array Oper} {k N : Nat} {K : KV} {I : Imm} {L : Own} {T : TPost}
theorem RowAt.take {α : Type} {d : Kd α} {I : Imm} {xs : List α} {cs : Nat → Option Value} (h : RowAt d I xs cs) (r : Nat) : RowAt d I (xs.take r) cs := ⟨fun i x hi => by
  rw [List.getElem?_take] at hi
  split at hi
  · exact h.at_ i x hi
  · cases hi⟩
/-- The head of a row. -/
theorem OwnS.take {α : Type} {d : Kd α} {e : TypeId} {A : Option Addr} {c : Nat} {xs : List α} {C : Own} (h : OwnS d e I A c xs C) (r : Nat) : OwnS d e I A c (xs.take r) C := by
  rcases h with ⟨rfl, rfl, rfl, rfl⟩ | ⟨g, cells, fz, rfl, rfl, h3, h4, h5, h6, h7⟩
  · exact .inl ⟨by simp, rfl, rfl, rfl⟩
  · exact .inr ⟨g, cells, fz, rfl, rfl, h3, by rw [List.length_take]; omega, h5, h6.take r, by rw [List.length_take]; omega⟩
theorem RepS.take {α : Type} {d : Kd α} {A : Option Addr} {c : Nat} {xs : List α} (h : RepS d I A c xs) (r : Nat) : RepS d I A c (xs.take r) := ⟨by have := h.le; rw [List.length_take]; omega, by have := h.max; rw [List.length_take]; omega, fun i x hi => by
  rw [List.getElem?_take] at hi
  split at hi
  · exact h.at_ i x hi
  · cases hi⟩
end
end Go.GB

/- Shifts and divisions by what is not known ahead. -/
set_option linter.unusedVariables false
set_option linter.unusedSimpArgs false
namespace Go.GB
section
variable {P : Program} {ops : Array Oper} {k N : Nat} {K : KV} {I : Imm} {L : Own} {T : TPost}
end
end Go.GB

/- Arrays that are compared. -/
set_option linter.unusedVariables false
set_option linter.unusedSimpArgs false
namespace Go.GB
section
variable {P : Program} {ops : Array Oper} {k N : Nat} {K : KV} {I : Imm} {L : Own} {T : TPost}
end
end Go.GB

/- The kit's contracts, brought to the form of the walks. -/
set_option linter.unusedVariables false
set_option linter.unusedSimpArgs false
namespace Go.GB
open Go.RowKit
/-- A call that only lays new blocks: what is known stays. -/
theorem Holds.below {I : Imm} {L : Own} {W W' : World} (h : Holds I L W) (hb : Below W.heap.size W W') (hd : I.dr ≤ W'.drawn) : Holds I L W' :=
  ⟨fun b o hI => by have := h.imm b o hI; rw [hb.block b (lt_of_heap this)]; exact this, fun p hp => by have := h.own p hp; rw [hb.block p.1 (lt_of_heap this)]; exact this, h.nd, h.dj,
    by rw [hb.os, h.os], by rw [hb.tape, h.tape], by rw [hb.output, h.out], hd⟩
theorem callsTo_below {P : Program} {f : FuncId} {args : Array Value} {I : Imm} {L : Own} {v : Value} (h0 : I.dr = 0) (h : ∀ W, Holds I L W → Calls P f args W fun e W' => e = .returned v ∧ Below W.heap.size W W') :
    CallsTo P f args I L (fun v' I' L' => v' = v ∧ L = L') := fun W hW =>
  (h W hW).mono fun e W' ⟨he, hb⟩ => ⟨v, I, L, he, Imm.refl I, hW.below hb (by rw [h0]; exact Nat.zero_le _), rfl, rfl⟩
end Go.GB

/- How data that are read are bounded. -/
set_option linter.unusedVariables false
set_option linter.unusedSimpArgs false
namespace Go.GB
def wInt (k : IntKind) (x : Int) (n : Nat) : Prop := k.min ≤ x ∧ x ≤ k.max
def wBool (b : Bool) (n : Nat) : Prop := True
def wStr (s : ByteArray) (n : Nat) : Prop := s.size + 1 ≤ n
def wSl {α : Type} (w : α → Nat → Prop) : List α → Nat → Prop
  | [], _ => True
  | x :: r, n => ∃ a b, w x a ∧ wSl w r b ∧ a + b ≤ n ∧ 1 ≤ a
theorem wSl.len {α : Type} {w : α → Nat → Prop} : ∀ {l : List α} {n : Nat}, wSl w l n → l.length ≤ n
  | [], n, _ => Nat.zero_le _
  | x :: r, n, ⟨a, b, _, h, hab, ha⟩ => by have := wSl.len h; simp; omega
theorem wSl.mem {α : Type} {w : α → Nat → Prop} {x : α} : ∀ {l : List α} {n : Nat}, wSl w l n → x ∈ l → ∃ a, w x a ∧ a ≤ n
  | [], _, _, h => by cases h
  | y :: r, n, ⟨a, b, hw, h, hab, _⟩, hx => by
    rcases List.mem_cons.1 hx with rfl | hx
    · exact ⟨a, hw, by omega⟩
    · obtain ⟨c, h1, h2⟩ := wSl.mem h hx
      exact ⟨c, h1, by omega⟩
theorem wSl.le {α : Type} {w : α → Nat → Prop} : ∀ {l : List α} {n m : Nat}, wSl w l n → n ≤ m → wSl w l m
  | [], _, _, _, _ => trivial
  | x :: r, n, m, ⟨a, b, h1, h2, h3, h4⟩, hm => ⟨a, b, h1, h2, by omega, h4⟩
end Go.GB

/- slices.SortFunc by the kit's contract, at an order that parts whatever two are not one. -/
set_option linter.unusedVariables false
set_option linter.unusedSimpArgs false
namespace Go.GB
open Go.RowKit
/-! ### What it makes of a list -/
structure SortOk {α : Type} (Q : α → Prop) (cmp : α → α → Option Int) (k : α → α → Int) : Prop where
  eq : ∀ x y, Q x → Q y → cmp x y = some (k x y)
  swo : Go.Sort.SWO (fun x y => decide (k x y < 0))
  anti : ∀ x y, ¬ k x y < 0 → ¬ k y x < 0 → x = y
def SortR {α : Type} (Q : α → Prop) (cmp : α → α → Option Int) (xs r : List α) : Prop := (∀ x ∈ xs, Q x) ∧ ∃ k, SortOk Q cmp k ∧ r.Perm xs ∧ r.Pairwise (fun x y => ¬ k y x < 0)
theorem SortR.unique {α : Type} {Q : α → Prop} {cmp : α → α → Option Int} {xs r r' : List α} (h : SortR Q cmp xs r) (h' : SortR Q cmp xs r') : r = r' := by
  obtain ⟨hq, k, hk, hp, hs⟩ := h
  obtain ⟨_, k', hk', hp', hs'⟩ := h'
  have e : ∀ x y, x ∈ xs → y ∈ xs → k x y = k' x y := fun x y hx hy => by
    have := hk.eq x y (hq x hx) (hq y hy)
    rw [hk'.eq x y (hq x hx) (hq y hy)] at this
    exact (Option.some.inj this).symm
  refine List.Perm.eq_of_pairwise (le := fun x y => ¬ k y x < 0) ?_ hs ?_ (hp.trans hp'.symm)
  · intro a b _ _ h1 h2; exact hk.anti a b h2 h1
  · refine hs'.imp_of_mem fun {a b} ha hb hab => ?_
    rw [e b a (hp'.mem_iff.1 hb) (hp'.mem_iff.1 ha)]; exact hab
open Classical in
noncomputable def sortO {α : Type} (Q : α → Prop) (cmp : α → α → Option Int) (xs : List α) : Option (List α) := if h : ∃ r, SortR Q cmp xs r then some h.choose else none
theorem sortO_some {α : Type} {Q : α → Prop} {cmp : α → α → Option Int} {xs r : List α} (h : sortO Q cmp xs = some r) : SortR Q cmp xs r := by
  unfold sortO at h
  split at h <;> cases h
  rename_i hx
  exact hx.choose_spec
theorem sortO_of {α : Type} {Q : α → Prop} {cmp : α → α → Option Int} {xs r : List α} (h : SortR Q cmp xs r) : sortO Q cmp xs = some r := by
  have hx : ∃ r, SortR Q cmp xs r := ⟨r, h⟩
  unfold sortO
  rw [dif_pos hx, hx.choose_spec.unique h]
theorem sortO_ex {α : Type} {Q : α → Prop} {cmp : α → α → Option Int} {k : α → α → Int} {xs : List α} (hq : ∀ x ∈ xs, Q x) (hk : SortOk Q cmp k) :
    ∃ r, sortO Q cmp xs = some r ∧ r.Perm xs ∧ r.Pairwise (fun x y => ¬ k y x < 0) := by
  have hp : (xs.mergeSort (fun x y => !(decide (k y x < 0)))).Perm xs := List.mergeSort_perm _ _
  have hs : (xs.mergeSort (fun x y => !(decide (k y x < 0)))).Pairwise (fun x y => ¬ k y x < 0) := by
    refine (List.pairwise_mergeSort (le := fun x y => !(decide (k y x < 0))) ?_ ?_ xs).imp (fun h => by simpa using h)
    · intro a b c h1 h2
      simp only [Bool.not_eq_true'] at h1 h2 ⊢
      exact hk.swo.ntrans c b a h2 h1
    · intro a b
      cases h : decide (k b a < 0) with
      | false => simp
      | true =>
        cases h2 : decide (k a b < 0) with
        | false => simp
        | true => have := hk.swo.trans a b a h2 h; rw [hk.swo.irrefl a] at this; cases this
  exact ⟨_, sortO_of ⟨hq, k, hk, hp, hs⟩, hp, hs⟩
theorem sortO_length {α : Type} {Q : α → Prop} {cmp : α → α → Option Int} {xs r : List α} (h : sortO Q cmp xs = some r) : r.length = xs.length := by
  obtain ⟨_, k, _, hp, _⟩ := sortO_some h
  exact hp.length_eq
/-! ### A world as it is, read -/
def snap (W : World) : Imm := ⟨fun b => W.heap[b]?, W.os, W.tape, W.output, W.drawn⟩
theorem snap_holds (W : World) : Holds (snap W) [] W := ⟨fun _ _ h => h, by simp, by simp, by simp, rfl, rfl, rfl, Nat.le_refl _⟩
theorem calls_snap {P : Program} {f : FuncId} {args : Array Value} {v : Value} {W : World} (h : CallsTo P f args (snap W) [] (fun v' I' L' => v' = v ∧ [] = L')) :
    Calls P f args W fun e W' => e = .returned v ∧ ∃ q os, W' = Go.Sort.grow (W.drewN q) os := by
  refine (h W (snap_holds W)).mono ?_
  rintro e W' ⟨v', I', L', rfl, hle, hh, rfl, rfl⟩
  refine ⟨rfl, W'.drawn - W.drawn, W'.heap.extract W.heap.size W'.heap.size, ?_⟩
  have h1 : ∀ b o, W.heap[b]? = some o → W'.heap[b]? = some o := fun b o hb => hh.imm b o (hle.h b o hb)
  have h2 : W'.os = W.os := hh.os.trans hle.os
  have h3 : W'.tape = W.tape := hh.tape.trans hle.tape
  have h4 : W'.output = W.output := hh.out.trans hle.out
  have h5 : W.drawn ≤ W'.drawn := by have := hh.dr; rw [hle.dr] at this; exact this
  have h6 : W'.heap = W.heap ++ W'.heap.extract W.heap.size W'.heap.size := by
    apply Array.ext_getElem?
    intro i
    rw [Array.getElem?_append]
    split
    · rename_i hi
      rw [h1 i _ (Array.getElem?_eq_getElem hi), Array.getElem?_eq_getElem hi]
    · rename_i hi
      rw [Array.getElem?_extract]
      split
      · congr 1; omega
      · rw [Array.getElem?_eq_none]; omega
  obtain ⟨hp, tp, dn, os', ot⟩ := W'
  simp only at h2 h3 h4 h5 h6
  subst h2 h3 h4
  simp only [Go.Sort.grow, World.drewN]
  rw [← h6, show W.drawn + (dn - W.drawn) = dn from by omega]
theorem Holds.grow {I : Imm} {L : Own} {W : World} (h : Holds I L W) (os : Array Obj) : Holds I L (Go.Sort.grow W os) := by
  have e : ∀ (b : Nat) (o : Obj), W.heap[b]? = some o → (Go.Sort.grow W os).heap[b]? = some o := fun b o hb => by
    show (W.heap ++ os)[b]? = _
    rw [Array.getElem?_append, if_pos (lt_of_heap hb)]; exact hb
  exact ⟨fun b o hI => e b o (h.imm b o hI), fun p hp => e p.1 p.2 (h.own p hp), h.nd, h.dj, h.os, h.tape, h.out, h.dr⟩
/-! ### A row of one cell each, with its cells -/
theorem row_pairs {α : Type} {d : Kd α} (hn : d.n = 1) {I : Imm} {cells : Nat → Option Value} : ∀ (xs : List α) (o : Nat), (∀ i x, xs[i]? = some x → ∃ l, d.R I x l ∧ ∀ j v, l[j]? = some v → cells (o + i + j) = some v) →
    ∃ D : List { p : Value × α // d.R I p.2 [p.1] }, D.map (fun b => b.1.2) = xs ∧ ∀ i b, D[i]? = some b → cells (o + i) = some b.1.1
  | [], _, _ => ⟨[], rfl, fun i b h => by simp at h⟩
  | x :: xs, o, h => by
    obtain ⟨D, hD, hc⟩ := row_pairs hn xs (o + 1) (fun i y hy => by obtain ⟨l, h1, h2⟩ := h (i + 1) y (by simpa using hy); exact ⟨l, h1, fun j v hj => by have := h2 j v hj; rwa [show o + (i + 1) + j = o + 1 + i + j from by omega] at this⟩)
    obtain ⟨l, h1, h2⟩ := h 0 x rfl
    have hl := d.len h1
    rw [hn] at hl
    obtain ⟨v, rfl⟩ := List.length_eq_one_iff.1 hl
    refine ⟨⟨(v, x), h1⟩ :: D, by simp [hD], fun i b hb => ?_⟩
    cases i with
    | zero => simp at hb; subst hb; exact h2 0 v rfl
    | succ i => have := hc i b (by simpa using hb); rwa [show o + 1 + i = o + (i + 1) from by omega] at this
theorem callsTo_sortFunc {P : Program} {ρ : Go.Shelf.Ren} (LY : Go.Proofs.SlLaysF.n6 P ρ) {α : Type} {d : Kd α} {e : TypeId} {I : Imm} {A : Option Addr} {c : Nat} {xs r : List α} {C : Own} {cmp : α → α → Option Int} {Q : α → Prop} {g : Nat}
    (hn : d.n = 1) (hQ : ∀ J x v, d.R J x [v] → Q x) (hO : OwnS d e I A c xs C) (hr : sortO Q cmp xs = some r) (eg : ∀ args w, (callFunc g args).run P w = .ok (.enter g args) w)
    (hc : ∀ {J : Imm} {x y : α} {vx vy : Value} {k : Int}, d.R J x [vx] → d.R J y [vy] → cmp x y = some k → ∀ L, CallsTo P g #[vx, vy] J L (fun v J' L' => v = .int .i64 k ∧ L = L')) (L : Own) :
    CallsTo P (ρ.f 6) #[.slice A xs.length c, .func (.func g) #[] #[]] I (C ++ L) (fun v I' L' => ∃ C', OwnS d e I' A c r C' ∧ v = .tuple #[] ∧ C' ++ L = L') := by
  intro W hW
  have hR := sortO_some hr
  obtain ⟨hq, k, hk, hp, hs⟩ := hR
  by_cases hx : xs = []
  · subst hx
    obtain rfl : r = [] := by simpa using hp
    exact (Go.Proofs.AnyF.slices_SortFunc_none { LY with } A c _ W).mono fun e W' ⟨he, hw⟩ => ⟨_, I, C ++ L, he, Imm.refl I, hw ▸ hW, C, hO, rfl, rfl⟩
  rcases hO with ⟨rfl, _, _⟩ | ⟨gb, cells, fz, rfl, rfl, hfz, hlc, hcs, hrow, hmx⟩
  · exact absurd rfl hx
  have hg : W.heap[gb]? = some (.cells cells e fz) := hW.own (gb, .cells cells e fz) (by simp)
  obtain ⟨D, hD, hDc⟩ := row_pairs (cells := fun j => cells[j]?) hn xs 0 (fun i x hx => by
    obtain ⟨l, h1, h2⟩ := hrow.at_ i x hx
    exact ⟨l, h1, fun j v hj => by have := h2 j v hj; rw [hn] at this; rwa [show 0 + i + j = i * 1 + j from by omega]⟩)
  have hDl : D.length = xs.length := by rw [← hD]; simp
  have hcl : cells.size = c := by rw [hcs, hn]; omega
  obtain ⟨b0, hb0⟩ : ∃ b, b ∈ D := by
    cases D with
    | nil => simp at hD; exact absurd hD hx
    | cons b D => exact ⟨b, by simp⟩
  haveI : Inhabited { p : Value × α // d.R I p.2 [p.1] } := ⟨b0⟩
  have hswo : Go.Sort.SWO (Go.Proofs.ltOf (fun x y : { p : Value × α // d.R I p.2 [p.1] } => k x.1.2 y.1.2)) := ⟨fun x => hk.swo.irrefl _, fun x y z => hk.swo.trans _ _ _, fun x y z => hk.swo.ntrans _ _ _⟩
  have hcmp : Go.Proofs.CmpLays1 P g #[] (fun b : { p : Value × α // d.R I p.2 [p.1] } => b.1.1) (fun x y => k x.1.2 y.1.2) gb 0 D.toArray.size W := by
    intro m os dk hs x y
    have hm : ∀ b o, I.h b = some o → (snap (Go.Proofs.sortWorld (fun b : { p : Value × α // d.R I p.2 [p.1] } => b.1.1) W gb 0 m dk os)).h b = some o := by
      intro b o hb
      have hne : gb ≠ b := fun e' => by have := hW.dj (gb, .cells cells e fz) (by simp); simp only [e'] at this; rw [this] at hb; cases hb
      have h1 := hW.imm b o hb
      show ((W.heap.modify gb _) ++ os)[b]? = some o
      rw [Array.getElem?_append, if_pos (by simpa using lt_of_heap h1), Array.getElem?_modify, if_neg hne]
      exact h1
    have hx2 := d.monoH hm x.2
    have hy2 := d.monoH hm y.2
    exact calls_snap (hc hx2 hy2 (hk.eq _ _ (hQ _ _ _ hx2) (hQ _ _ _ hy2)) [])
  have hH : Go.Sort.Holds (fun b : { p : Value × α // d.R I p.2 [p.1] } => b.1.1) W gb 0 D.toArray := by
    intro j hj
    have hj' : j < D.length := by simpa using hj
    have h1 := hDc j D[j] (List.getElem?_eq_getElem hj')
    simp only [Nat.zero_add] at h1 ⊢
    refine ⟨?_, ?_⟩
    · simp only [World.cell?, hg, Option.isSome_none, Bool.false_eq_true, if_false, h1]
      rw [getElem!_pos D.toArray j hj]; simp
    · simp only [World.frozen?, hg]
      have := hfz j (by omega)
      simp only [Bool.and_eq_false_iff, decide_eq_false_iff_not]
      omega
  have hmx' : xs.length ≤ 2147483648 := hmx
  have hcalls := Go.Proofs.Any.slices_SortFunc LY (fun b : { p : Value × α // d.R I p.2 [p.1] } => b.1.1) (fun b => d.one b.2 _ (by simp)) (fun x y => k x.1.2 y.1.2) hswo g #[] gb 0 c D.toArray W eg hcmp hH (lt_of_heap hg) (by simp; omega)
  rw [show D.toArray.size = xs.length from by simp [hDl]] at hcalls
  refine hcalls.mono ?_
  rintro e' W' ⟨he, d', n, os, hp', hs', rfl⟩
  have hds : d'.size = xs.length := by rw [hp'.1]; simp [hDl]
  have hpm : d'.toList.Perm D := by
    have := hp'.2.2
    rw [← hds, Array.extract_size] at this
    rw [show d'.size = D.toArray.size from by rw [hds]; simp [hDl], Array.extract_size] at this
    simpa using this
  have hrr : d'.toList.map (fun b => b.1.2) = r := by
    refine SortR.unique (Q := Q) (cmp := cmp) (xs := xs) ⟨hq, k, hk, by rw [← hD]; exact hpm.map _, ?_⟩ ⟨hq, k, hk, hp, hs⟩
    rw [List.pairwise_map, List.pairwise_iff_getElem]
    intro i j hi hj hij
    have hi' : i < d'.size := by simpa using hi
    have hj' : j < d'.size := by simpa using hj
    have := hs' i j (Nat.zero_le _) hij (by omega)
    rw [getElem!_pos d' j hj', getElem!_pos d' i hi'] at this
    simpa [Go.Proofs.ltOf] using this
  have hrl : r.length = xs.length := hp.length_eq
  obtain ⟨cells', hcells'⟩ : ∃ cells', Go.Sort.putCells (fun b : { p : Value × α // d.R I p.2 [p.1] } => b.1.1) 0 d' cells = cells' := ⟨_, rfl⟩
  have hsz' : cells'.size = cells.size := by rw [← hcells']; simp [Go.Sort.putCells]
  have hget : ∀ i (hi : i < d'.size), cells'[i]? = some (d'[i]).1.1 := fun i hi => by
    have hi2 : i < cells.size := by omega
    rw [← hcells', Go.Sort.putCells, Array.getElem?_mapIdx, Array.getElem?_eq_getElem hi2, Option.map_some]
    simp only [Nat.zero_le, true_and, Nat.zero_add, hi, if_true, Nat.sub_zero]
    rw [getElem!_pos d' i hi]
  refine ⟨_, I, (gb, .cells cells' e fz) :: L, he, Imm.refl I, ?_, [(gb, .cells cells' e fz)], .inr ⟨gb, cells', fz, rfl, rfl, by rw [hsz']; exact hfz, by omega, by rw [hsz']; exact hcs, ⟨fun i x hx => ?_⟩, by omega⟩, rfl, rfl⟩
  · refine Holds.grow (W := Go.Sort.putRow (fun b : { p : Value × α // d.R I p.2 [p.1] } => b.1.1) (Go.Sort.ahead W n) gb 0 d') (Holds.set (A := []) hW (.cells cells' e fz) ?_ (fun b hb => ?_) rfl rfl ⟨rfl, ?_⟩) os
    · show (W.heap.modify gb _)[gb]? = _
      rw [Array.getElem?_modify, if_pos rfl, hg]
      simp only [Option.map_some, Go.Sort.onCells, hcells']
    · show (W.heap.modify gb _)[b]? = _
      rw [Array.getElem?_modify, if_neg (Ne.symm hb)]
    · show W.drawn ≤ W.drawn + n
      omega
  · rw [← hrr, List.getElem?_map] at hx
    cases hb : d'.toList[i]? with
    | none => rw [hb] at hx; cases hx
    | some b =>
      rw [hb] at hx
      simp only [Option.map_some, Option.some.injEq] at hx
      subst hx
      obtain ⟨hi, hbe⟩ := List.getElem?_eq_some_iff.1 hb
      refine ⟨[b.1.1], b.2, fun j v hj => ?_⟩
      cases j with
      | zero =>
        simp at hj
        subst hj
        have := hget i (by simpa using hi)
        rw [hn, Nat.mul_one, Nat.add_zero]
        rw [this, ← hbe]; simp
      | succ j => simp at hj
end Go.GB

/- Rows of the call's own: read while order is drawn; their tails; clear. -/
set_option linter.unusedVariables false
set_option linter.unusedSimpArgs false
namespace Go.GB
open Go.RowKit
theorem OwnS.ixAt {α : Type} {d : Kd α} {e : TypeId} {I : Imm} {A : Option Addr} {c : Nat} {l : List α} {x : α} {i : Int} {C : Own} (hx : ix l i = some x) (hO : OwnS d e I A c l C) :
    ∃ p cs, d.R I x cs ∧ (∀ I' L', (∀ q ∈ C, q ∈ L') → AtL I' L' p cs) ∧ ∃ a, A = some a ∧ p = a.add (i.toNat * d.n) := by
  obtain ⟨h0, h1, h2⟩ := ix_some hx
  rcases hO with ⟨rfl, _, _⟩ | ⟨g, cells, fz, rfl, rfl, _, h4, h5, h6, _⟩
  · simp at h2
  · obtain ⟨cs, hR, hr⟩ := h6.at_ _ x h2
    refine ⟨_, cs, hR, fun I' L' hC W hW j v hj => ?_, _, rfl, rfl⟩
    have hg : W.heap[g]? = some (.cells cells e fz) := hW.own (g, .cells cells e fz) (hC _ (by simp))
    rw [addr_add]
    simp only [World.cell?, hg]
    simpa using hr j v hj
/-- A' is where the tail from k on of a slice at A lies, m elements of it. -/
def ViewS (n : Nat) (A A' : Option Addr) (k : Int) (m : Nat) : Prop := 0 ≤ k ∧ ∀ i : Int, 0 ≤ i → i < (m : Int) → ∃ a, A = some a ∧ ∃ a', A' = some a' ∧ a' = a.add (k.toNat * n)
def viewA (A : Option Addr) (b : Int) (n c : Nat) : Option Addr := if c = b.toNat then A else A.map (·.add (b.toNat * n))
theorem lx_take {α : Type} {l l' : List α} {b : Int} (hx : lx l 0 b = some l') : l' = l.take b.toNat := by
  unfold lx at hx
  split at hx <;> try (cases hx; done)
  simpa using hx.symm
theorem OwnS.view {α : Type} {d : Kd α} {e : TypeId} {I : Imm} {A : Option Addr} {c : Nat} {l l' : List α} {b : Int} {C : Own} (hx : lx l b (l.length : Int) = some l') (hO : OwnS d e I A c l C) : ViewS d.n A (viewA A b d.n c) b l'.length := by
  unfold lx at hx
  split at hx <;> try (cases hx; done)
  rename_i hb
  obtain ⟨h0, h1, h2⟩ := hb
  simp only [Option.some.injEq] at hx
  have hlc := hO.lenc
  have hlen : l'.length = l.length - b.toNat := by rw [← hx, List.length_drop, List.length_take]; omega
  refine ⟨h0, fun i hi0 hi1 => ?_⟩
  unfold viewA
  rw [if_neg (by omega)]
  rcases hO with ⟨rfl, _, _⟩ | ⟨g, cells, fz, rfl, rfl, _, h4, h5, h6, _⟩
  · have h3 : l'.length = 0 := by rw [hlen]; simp
    omega
  · exact ⟨_, rfl, _, rfl, rfl⟩
theorem OwnS.rdT {α : Type} {d : Kd α} {e : TypeId} {I : Imm} {A A' : Option Addr} {c : Nat} {l l' : List α} {b : Int} {C L : Own} (hx : lx l b (l.length : Int) = some l') (hV : ViewS d.n A A' b l'.length) (hO : OwnS d e I A c l C) (hU : Upd L C C L) : RdS d I L A' l' := by
  refine ⟨fun W hW => ?_⟩
  unfold lx at hx
  split at hx <;> try (cases hx; done)
  rename_i hb
  obtain ⟨h0, h1, h2⟩ := hb
  simp only [Option.some.injEq] at hx
  by_cases hne : l' = []
  · rw [hne]; exact (RdS.nil d I L A').rd W hW
  have hpos : 0 < l'.length := by cases l' with | nil => exact absurd rfl hne | cons _ _ => simp
  obtain ⟨a, ha, a', ha', hae⟩ := hV.2 0 (by omega) (by omega)
  rcases hO with ⟨rfl, _, _⟩ | ⟨g, cells, fz, rfl, rfl, _, h4, h5, h6, _⟩
  · rw [← hx] at hpos; simp at hpos
  · cases ha
    obtain ⟨R, h1', _⟩ := hW.upd hU
    have hg : W.heap[g]? = some (.cells cells e fz) := h1'.mem (by simp)
    have hcell : ∀ j, W.cell? ((⟨g, 0, none⟩ : Addr).add j) = cells[j]? := fun j => by
      have hadd : (⟨g, 0, none⟩ : Addr).add j = ⟨g, j, none⟩ := by unfold Addr.add; split <;> simp_all
      rw [hadd]; simp [World.cell?, hg]
    obtain ⟨ll, q1, q2, q3, q4⟩ := row_list (d := d) (I := I) a' W l' 0 (fun i y hy => by
      rw [← hx, List.getElem?_drop] at hy
      rw [List.getElem?_take] at hy
      split at hy <;> try (cases hy; done)
      obtain ⟨cs, hR, hr⟩ := h6.at_ _ y hy
      refine ⟨cs, hR, fun j v hj => ?_⟩
      have := hr j v hj
      rw [hae, Nat.zero_add, add_add, hcell, ← Nat.add_assoc, ← Nat.add_mul]
      exact this)
    exact ⟨ll, q1, q2, q3, fun _ => ⟨a', ha', fun j v hj => by have := q4 j v hj; simpa using this⟩⟩
def ixv {α : Type} (z : List α) (k : Int) (m : Nat) (i : Int) : Option α := if 0 ≤ i ∧ i < (m : Int) then ix z (k + i) else none
theorem OwnS.ixV {α : Type} {d : Kd α} {e : TypeId} {I : Imm} {A A' : Option Addr} {c m : Nat} {l : List α} {x : α} {k i : Int} {C : Own} (hx : ixv l k m i = some x) (hV : ViewS d.n A A' k m) (hO : OwnS d e I A c l C) :
    ∃ p cs, d.R I x cs ∧ (∀ I' L', (∀ q ∈ C, q ∈ L') → AtL I' L' p cs) ∧ (∃ a, A' = some a ∧ p = a.add (i.toNat * d.n)) ∧ 0 ≤ i ∧ i < (m : Int) := by
  unfold ixv at hx
  split at hx
  · rename_i hi
    obtain ⟨p, cs, hR, hA, a, ha, hp⟩ := hO.ixAt hx
    obtain ⟨a1, ha1, a', ha', he⟩ := hV.2 i hi.1 hi.2
    have hk := hV.1
    rw [ha] at ha1
    cases ha1
    refine ⟨p, cs, hR, hA, ⟨a', ha', ?_⟩, hi⟩
    rw [hp, he, add_add, ← Nat.add_mul]
    congr 2
    omega
  · cases hx
def clrv {α : Type} (z : List α) (k : Int) (m : Nat) (y : α) : Option (List α) := if 0 ≤ k ∧ k + m ≤ (z.length : Int) then some (z.take k.toNat ++ List.replicate m y ++ z.drop (k.toNat + m)) else none
theorem clrv_length {α : Type} {z z' : List α} {k : Int} {m : Nat} {y : α} (h : clrv z k m y = some z') : z'.length = z.length := by
  unfold clrv at h
  split at h <;> try (cases h; done)
  rename_i hb
  simp only [Option.some.injEq] at h
  rw [← h]; simp; omega
theorem OwnS.head {α : Type} {d : Kd α} {e : TypeId} {I : Imm} {A : Option Addr} {c : Nat} {l l' : List α} {n : Nat} {C : Own} (hd : l' = l.take n) (h : OwnS d e I A c l C) : OwnS d e I A c l' C := by rw [hd]; exact h.take n
theorem RepS.head {α : Type} {d : Kd α} {I : Imm} {A : Option Addr} {c : Nat} {l l' : List α} {n : Nat} (hd : l' = l.take n) (h : RepS d I A c l) : RepS d I A c l' := by rw [hd]; exact h.take n
section
variable {P : Program} {ops : Array Oper} {k N : Nat} {K : KV} {I : Imm} {L : Own} {T : TPost}
/-- The head of an owned row, as a slice. -/
theorem gl_sliceH {n : Nat} {α : Type} {T' e : TypeId} {xs : Operand} {lo hi : Option Operand} {A : Option Addr} {c : Nat} {l l' : List α} {b : Int} (hx : lx l 0 b = some l') (hlc : l.length ≤ c)
    (ho : (opAt ops k).op = .slice T' xs lo hi none) (h : readyKV ops k N K = true) (hs : kvOp K xs = some (.slice A l.length c)) (hu : sliceElem P T' = some (e, n))
    (hl : kvBound K lo 0 = some 0) (hh : kvBound K hi l.length = some b)
    (kk : GLk P ops (k + 1) N (kvPut K (opAt ops k).dst (.slice A l'.length c)) I L T) : GLk P ops k N K I L T := by
  unfold lx at hx
  split at hx <;> try (cases hx; done)
  rename_i hb
  obtain ⟨_, h1, h2⟩ := hb
  simp only [Option.some.injEq, Int.toNat_zero, List.drop_zero] at hx
  have hlen : l'.length = b.toNat := by rw [← hx, List.length_take]; omega
  refine gl_sliceV (n := n) (a := 0) (b := b) (by omega) h1 (by omega) ho h hs hu hl hh (v := .slice A l'.length c) ?_ kk
  by_cases hc : c = 0
  · rw [hc] at hlc ⊢
    simp [hlen]
  · simp [hc, hlen]
    cases A with
    | none => rfl
    | some a => simp [add_zero']
/-- The tail of an owned row. -/
theorem gl_sliceT {n : Nat} {α : Type} {T' e : TypeId} {xs : Operand} {lo : Option Operand} {A : Option Addr} {c : Nat} {l l' : List α} {b : Int} (hx : lx l b (l.length : Int) = some l') (hlc : l.length ≤ c)
    (ho : (opAt ops k).op = .slice T' xs lo none none) (h : readyKV ops k N K = true) (hs : kvOp K xs = some (.slice A l.length c)) (hu : sliceElem P T' = some (e, n))
    (hl : kvBound K lo 0 = some b)
    (kk : GLk P ops (k + 1) N (kvPut K (opAt ops k).dst (.slice (viewA A b n c) l'.length (c - b.toNat))) I L T) : GLk P ops k N K I L T := by
  unfold lx at hx
  split at hx <;> try (cases hx; done)
  rename_i hb
  obtain ⟨h0, h1, h2⟩ := hb
  simp only [Option.some.injEq] at hx
  have hlen : l'.length = l.length - b.toNat := by rw [← hx, List.length_drop, List.length_take]; omega
  exact gl_sliceV (n := n) (a := b) (b := (l.length : Int)) h0 h1 (by omega) ho h hs hu hl rfl (v := .slice (viewA A b n c) l'.length (c - b.toNat)) (by rw [hlen]; simp [viewA]) kk
theorem zeroCells_get (zc : Array Value) (m i j : Nat) (v : Value) (hi : i < m) (hj : zc.toList[j]? = some v) : (Builtin.zeroCells zc m).toList[i * zc.size + j]? = some v := by
  have hj' : j < zc.size := by have := (List.getElem?_eq_some_iff.1 hj).1; simpa using this
  have hb : i * zc.size + j < m * zc.size := by
    have : (i + 1) * zc.size ≤ m * zc.size := Nat.mul_le_mul_right _ (by omega)
    rw [Nat.add_mul, Nat.one_mul] at this; omega
  have hm : (i * zc.size + j) % zc.size = j := by rw [Nat.mul_comm i, Nat.mul_add_mod]; exact Nat.mod_eq_of_lt hj'
  rw [Array.getElem?_toList]
  simp only [Builtin.zeroCells, Array.getElem?_map, Array.getElem?_range, hb, if_true, Option.map_some, hm]
  rw [Array.getElem?_toList] at hj
  rw [getElem!_def, hj]
/-- Part of a row of the call's own is cleared. -/
theorem gl_clearV {α : Type} {d : Kd α} {t e e' : TypeId} {x : Operand} {A A' : Option Addr} {c c' m : Nat} {z z' : List α} {y : α} {b : Int} {zc : Array Value} {C : Own} (f : Own → Own)
    (hx : clrv z b m y = some z') (hV : ViewS d.n A A' b m) (hO : OwnS d e' I A c z C) (hU : ∀ X, Upd L C X (f X))
    (ho : (opAt ops k).op = .call { callee := .builtin .clear, args := #[x], argTypes := #[t] }) (h : readyKV ops k N K = true)
    (hk : kvOp K x = some (.slice A' m c')) (he : sliceElem P t = some (e, d.n)) (hinfo : elemInfo P e d.n = true) (hz : zeroCells' P e = some zc) (hR : d.R I y zc.toList)
    (kk : ∀ C', OwnS d e' I A c z' C' → GLk P ops (k + 1) N (kvPut K (opAt ops k).dst (.tuple #[])) I (f C') T) : GLk P ops k N K I L T := by
  obtain ⟨hu1, hu2⟩ := sliceElem_spec he
  obtain ⟨ti, zv, hti, hzv, hsz, hzs, hby, hb0, hn0⟩ := elemInfo_spec hinfo
  have hzc : zv.cells = zc := by
    unfold zeroCells' at hz
    rw [hti] at hz
    simp only [hzv, Option.some.injEq] at hz
    exact hz
  have hzl : zc.size = d.n := by rw [← hzc]; exact hzs
  unfold clrv at hx
  split at hx <;> try (cases hx; done)
  rename_i hb
  obtain ⟨hb1, hb2⟩ := hb
  simp only [Option.some.injEq] at hx
  have hzlen : z'.length = z.length := by rw [← hx]; simp; omega
  refine gl_gen h fun tt ht W hW => ?_
  by_cases hm : m = 0
  · subst hm
    obtain ⟨R, hR1, hR2⟩ := hW.upd (hU C)
    have hzz : z' = z := by rw [← hx]; simp
    refine ⟨_, I, f C, W, ?_, hR2 I W hR1, kk C (by rw [hzz]; exact hO)⟩
    have hrun : (Builtin.clear_ #[t] (opAt ops k).type #[.slice A' 0 c']).run P W = .ok (.tuple #[]) W := by
      cases A' <;> simp [Builtin.clear_, run_underlying' hu1]
    simp only [execOp, ho, resolve, invoke, builtin, Sem.run_bind, Sem.run_pure, Result.andThen_ok, List.map_toArray, List.map_cons, List.map_nil, ht.op hk, hrun]
  obtain ⟨a, ha, a', ha', hae⟩ := hV.2 0 (by omega) (by omega)
  rcases hO with ⟨rfl, _, _⟩ | ⟨g, cells, fz, rfl, rfl, hfz, hc1, hc2, hrow, hmx⟩
  · simp at hb2; omega
  cases ha
  have hae' : a' = ⟨g, b.toNat * d.n, none⟩ := by rw [hae]; have := addr_add g 0 (b.toNat * d.n); rw [add_zero'] at this; simpa using this
  subst ha' hae'
  have hzsl : (Builtin.zeroCells zc m).toList.length = m * d.n := by simp [Builtin.zeroCells, hzl]
  have hfit : (b.toNat + m) * d.n ≤ cells.size := by rw [hc2]; exact Nat.mul_le_mul_right _ (by omega)
  rw [Nat.add_mul] at hfit
  have hone : ∀ v ∈ (Builtin.zeroCells zc m).toList, v.oneCell' = true := by
    intro v hv
    simp only [Builtin.zeroCells, Array.toList_map, List.mem_map, Array.toList_range, List.mem_range] at hv
    obtain ⟨i, hi, rfl⟩ := hv
    have hi2 : i % zc.size < zc.size := Nat.mod_lt _ (by omega)
    rw [getElem!_pos zc _ hi2]
    exact d.one hR _ (by simp)
  obtain ⟨R, hR1, hR2⟩ := hW.upd (hU [(g, .cells (putSeg cells (b.toNat * d.n) (Builtin.zeroCells zc m).toList) e' fz)])
  obtain ⟨W', hs', hg, hne, ho1, ho2, ho3⟩ := store_block (P := P) (g := g) (t := e') (fz := fz) (Builtin.zeroCells zc m).toList (b.toNat * d.n) 0 cells W (hR1.mem (by simp)) hfz (by rw [hzsl]; omega) hone
  have hget := putSeg_get (Builtin.zeroCells zc m).toList cells (b.toNat * d.n) (by rw [hzsl]; omega)
  refine ⟨_, I, _, W', ?_, hR2 I W' (Holds.set (A := []) hR1 _ (by simpa using hg) hne ho1 ho2 ho3), kk _ (.inr ⟨g, _, fz, rfl, rfl, by rw [FreeOf, putSeg_size]; exact hfz, by rw [hzlen]; exact hc1, by rw [putSeg_size]; exact hc2, ⟨fun i x hi => ?_⟩, by rw [hzlen]; exact hmx⟩)⟩
  · have hzr : (zeroValue e).run P W = .ok zv W := by simp [zeroValue, typeInfo, hti, hzv]
    have hrun : (Builtin.clear_ #[t] (opAt ops k).type #[.slice (some ⟨g, b.toNat * d.n, none⟩) m c']).run P W = .ok (.tuple #[]) W' := by
      cases m with
      | zero => exact absurd rfl hm
      | succ m => simp [Builtin.clear_, run_underlying' hu1, hzr, hzc, hs']
    simp only [execOp, ho, resolve, invoke, builtin, Sem.run_bind, Sem.run_pure, Result.andThen_ok, List.map_toArray, List.map_cons, List.map_nil, ht.op hk, hrun]
  · rw [← hx] at hi
    by_cases h1 : i < b.toNat
    · rw [List.append_assoc, List.getElem?_append_left (by simp; omega), List.getElem?_take, if_pos h1] at hi
      obtain ⟨cs, hR', hr⟩ := hrow.at_ i x hi
      have hcl := d.len hR'
      refine ⟨cs, hR', fun j v hj => ?_⟩
      have hj' : j < d.n := by have := (List.getElem?_eq_some_iff.1 hj).1; omega
      have h3 : (i + 1) * d.n ≤ b.toNat * d.n := Nat.mul_le_mul_right _ (by omega)
      rw [Nat.add_mul, Nat.one_mul] at h3
      simp only [hget]
      rw [if_neg (by omega)]
      exact hr j v hj
    · by_cases h2 : i < b.toNat + m
      · rw [List.getElem?_append_left (by simp; omega), List.getElem?_append_right (by simp; omega), List.getElem?_replicate] at hi
        split at hi <;> try (cases hi; done)
        cases hi
        refine ⟨zc.toList, hR, fun j v hj => ?_⟩
        have hj' : j < d.n := by have := (List.getElem?_eq_some_iff.1 hj).1; rw [Array.length_toList] at this; omega
        have h3 : b.toNat * d.n ≤ i * d.n := Nat.mul_le_mul_right _ (by omega)
        have h4 : (i + 1) * d.n ≤ (b.toNat + m) * d.n := Nat.mul_le_mul_right _ (by omega)
        rw [Nat.add_mul, Nat.one_mul, Nat.add_mul] at h4
        simp only [hget]
        rw [if_pos (by rw [hzsl]; omega)]
        have h5 := zeroCells_get zc m (i - b.toNat) j v (by omega) hj
        rw [hzl, Nat.sub_mul] at h5
        rw [show i * d.n + j - b.toNat * d.n = i * d.n - b.toNat * d.n + j from by omega]
        exact h5
      · have hmin : min b.toNat z.length = b.toNat := by omega
        rw [List.getElem?_append_right (by simp; omega), List.getElem?_drop] at hi
        simp only [List.length_append, List.length_take, List.length_replicate, hmin] at hi
        rw [show b.toNat + m + (i - (b.toNat + m)) = i from by omega] at hi
        obtain ⟨cs, hR', hr⟩ := hrow.at_ i x hi
        refine ⟨cs, hR', fun j v hj => ?_⟩
        have h3 : (b.toNat + m) * d.n ≤ i * d.n := Nat.mul_le_mul_right _ (by omega)
        rw [Nat.add_mul] at h3
        simp only [hget]
        rw [if_neg (by rw [hzsl]; omega)]
        exact hr j v hj
end
end Go.GB

/- Strings gone through rune by rune; heads of rows; what a builder holds. -/
set_option linter.unusedVariables false
set_option linter.unusedSimpArgs false
namespace Go.GB
open Go.RowKit
section
variable {P : Program} {ops : Array Oper} {k N : Nat} {K : KV} {I : Imm} {L : Own} {T : TPost}
end
/-- What a strings.Builder at block g holds: its bytes xs; B: its blocks. -/
def BldS (T e : TypeId) (I : Imm) (g : Nat) (xs : List Int) (B : Own) : Prop :=
  ∃ p A c C, (p = none ∨ p = some (⟨g, 0, none⟩ : Addr)) ∧ OwnS (Kd.int .u8) e I A c xs C ∧ B = (g, .cells #[.pointer p, .slice A xs.length c] T) :: C
theorem BldS.mono {T e : TypeId} {I J : Imm} {g : Nat} {xs : List Int} {B : Own} (h : BldS T e I g xs B) (hI : I ≤ J) : BldS T e J g xs B := by
  obtain ⟨p, A, c, C, h1, h2, h3⟩ := h
  exact ⟨p, A, c, C, h1, h2.mono hI, h3⟩
theorem BldS.new (T e : TypeId) (I : Imm) (g : Nat) : BldS T e I g [] [(g, .cells #[.pointer none, .slice none 0 0] T)] :=
  ⟨none, none, 0, [], .inl rfl, OwnS.nil _ _ _ _, rfl⟩
end Go.GB

/- Decimal numerals, by a number of rounds. -/
set_option linter.unusedVariables false
set_option linter.unusedSimpArgs false
namespace Go.GB
/-! ### Labels that are gone to from nowhere -/
section
variable {P : Program} {c : Code} {N : Nat} {K : KV} {I : Imm} {L : Own} {Q : Post}
end
end Go.GB

/- Heads of rows of which more is known than they show; elements of owned rows that are stored to late; functions that call themselves. -/
set_option linter.unusedVariables false
set_option linter.unusedSimpArgs false
namespace Go.GB
open Go.RowKit
section
variable {P : Program} {ops : Array Oper} {k N : Nat} {K : KV} {I : Imm} {L : Own} {T : TPost}
end
/-- An element of an owned row: where it lies, and what it holds as long as the row stays. -/
theorem OwnS.ixAtG {α : Type} {d : Kd α} {e : TypeId} {I : Imm} {A : Option Addr} {c : Nat} {l : List α} {x : α} {i : Int} {C : Own} (hx : ix l i = some x) (hO : OwnS d e I A c l C) :
    ∃ p cs, d.R I x cs ∧ (∀ I' L', (∀ q ∈ C, q ∈ L') → AtL I' L' p cs) ∧ (∃ a, A = some a ∧ p = a.add (i.toNat * d.n)) ∧ ∃ g, A = some ⟨g, 0, none⟩ ∧ p = (⟨g, 0, none⟩ : Addr).add (i.toNat * d.n) := by
  obtain ⟨p, cs, h1, h2, a, h3, h4⟩ := OwnS.ixAt hx hO
  refine ⟨p, cs, h1, h2, ⟨a, h3, h4⟩, ?_⟩
  rcases hO with ⟨_, _, _, h⟩ | ⟨g, cells, fz, rfl, rfl, _⟩
  · rw [h] at h3; cases h3
  · cases h3; exact ⟨g, rfl, h4⟩
end Go.GB

/- Rows of slices whose own rows are new: known whole, not among what was known before, to be written again. -/
set_option linter.unusedVariables false
set_option linter.unusedSimpArgs false
namespace Go.GB
open Go.RowKit
/-- A new row at rest. -/
def FrRow (w : Nat) (e : TypeId) (J0 I : Imm) (A : Option Addr) (n : Nat) : Prop := n = 0 ∨ ∃ g cells fz, A = some ⟨g, 0, none⟩ ∧ I.h g = some (.cells cells e fz) ∧ FreeOf fz cells.size ∧ n * w ≤ cells.size ∧ J0.h g = none
namespace Kd
def fr {α : Type} (J0 : Imm) (d : Kd α) (e : TypeId) : Kd (List α) := ⟨1, fun I xs cs => ∃ A c, cs = [.slice A xs.length c] ∧ RepS d I A c xs ∧ FrRow d.n e J0 I A xs.length, fun ⟨_, _, h, _⟩ => by rw [h]; rfl,
  fun ⟨_, _, h, _⟩ c hc => by rw [h] at hc; simp at hc; rw [hc]; rfl,
  fun hI ⟨A, c, h, hr, hf⟩ => ⟨A, c, h, hr.monoH hI, hf.imp id fun ⟨g, cells, fz, h1, h2, h3⟩ => ⟨g, cells, fz, h1, hI _ _ h2, h3⟩⟩⟩
end Kd
theorem fr_open {α : Type} {J0 : Imm} {d : Kd α} {e : TypeId} {I : Imm} {xs : List α} {cs : List Value} (h : (Kd.fr J0 d e).R I xs cs) : ∃ A c, cs = [.slice A xs.length c] ∧ RepS d I A c xs := by
  obtain ⟨A, c, h1, h2, _⟩ := h
  exact ⟨A, c, h1, h2⟩
theorem fr_nil {α : Type} {J0 : Imm} {d : Kd α} {e : TypeId} {I : Imm} : (Kd.fr J0 d e).R I [] [.slice none 0 0] := ⟨none, 0, rfl, RepS.nil _ _, .inl rfl⟩
theorem fr_sl {α : Type} {J0 : Imm} {d : Kd α} {e : TypeId} {I : Imm} {xs : List α} {cs : List Value} (h : (Kd.fr J0 d e).R I xs cs) : (Kd.sl d).R I xs cs := fr_open h
theorem fr_rest {α : Type} {J0 : Imm} {d : Kd α} {e : TypeId} {I J : Imm} {A : Option Addr} {c : Nat} {xs : List α} {C : Own} (h : OwnS d e I A c xs C) (hI : I ≤ J) (hC : Has J C) (hn : ∀ p ∈ C, J0.h p.1 = none) :
    (Kd.fr J0 d e).R J xs [.slice A xs.length c] := by
  refine ⟨A, c, rfl, h.rest hI hC, ?_⟩
  rcases h with ⟨rfl, _, _, _⟩ | ⟨g, cells, fz, rfl, rfl, h3, h4, h5, _, _⟩
  · exact .inl rfl
  · exact .inr ⟨g, cells, fz, rfl, hC (g, .cells cells e fz) (by simp), h3, by rw [h5]; exact Nat.mul_le_mul_right _ h4, hn (g, .cells cells e fz) (by simp)⟩
/-- Rows of them are rows of slices. -/
theorem RepS.ofFr {α : Type} {J0 : Imm} {d : Kd α} {e : TypeId} {I : Imm} {A : Option Addr} {c : Nat} {xs : List (List α)} (h : RepS (Kd.fr J0 d e) I A c xs) : RepS (Kd.sl d) I A c xs :=
  ⟨h.le, h.max, fun i x hx => by obtain ⟨a, cs, h1, h2, h3⟩ := h.at_ i x hx; exact ⟨a, cs, h1, fr_sl h2, h3⟩⟩
theorem OwnS.ofFr {α : Type} {J0 : Imm} {d : Kd α} {e e' : TypeId} {I : Imm} {A : Option Addr} {c : Nat} {xs : List (List α)} {C : Own} (h : OwnS (Kd.fr J0 d e) e' I A c xs C) : OwnS (Kd.sl d) e' I A c xs C := by
  rcases h with h | ⟨g, cells, fz, h1, h2, h3, h4, h5, h6, h7⟩
  · exact .inl h
  · exact .inr ⟨g, cells, fz, h1, h2, h3, h4, h5, ⟨fun i x hx => by obtain ⟨l, q1, q2⟩ := h6.at_ i x hx; exact ⟨l, fr_sl q1, q2⟩⟩, h7⟩
section
variable {P : Program} {ops : Array Oper} {k N : Nat} {K : KV} {I : Imm} {L C R : Own} {T : TPost}
/-- Laid to rest; it was not known before. -/
theorem gl_restF (t : Tk L C R) (kk : ∀ J, I ≤ J → Has J C → (∀ J0, J0 ≤ I → ∀ p ∈ C, J0.h p.1 = none) → GLk P ops k N K J R T) : GLk P ops k N K I L T := fun tm ht W hW =>
  let ⟨h1, h2, h3⟩ := hW.take t
  kk _ h2 h3 (fun J0 hJ p hp => by
    have hd := hW.dj p (t.p.mem_iff.2 (List.mem_append_left _ hp))
    cases h0 : J0.h p.1 with
    | none => rfl
    | some o => have := hJ.h _ _ h0; rw [this] at hd; cases hd) tm ht W h1
/-- A call behind which no more is known than was known before. -/
theorem gl_callBack {J0 : Imm} {L' : Own} {f : FuncId} {args : Array Value} {v : Value} (h : callKV P ops k N K = some (f, args)) (hc : ∀ W, Holds I L W → Calls P f args W fun e W' => e = .returned v ∧ Holds J0 L' W')
    (kk : GLk P ops (k + 1) N (kvPut K (opAt ops k).dst v) J0 L' T) : GLk P ops k N K I L T := by
  unfold callKV at h
  cases hb : (readyKV ops k N K && kvKnown K (opAt ops k)) with
  | false => rw [hb] at h; cases h
  | true =>
    rw [hb] at h
    simp only [cond_true] at h
    simp only [Bool.and_eq_true] at hb
    obtain ⟨hk, hw, hd⟩ := readyKV_spec hb.1
    intro t ht W hW
    rw [drop_at hk]
    unfold wpList
    rw [if_pos (kvWanted_sound ht hw)]
    refine .inl ?_
    unfold Oper.wp
    rw [kvKnown_exec ht hb.2, enterOf_sound h W]
    refine (hc W hW).mono ?_
    rintro e W' ⟨rfl, hh⟩
    show wpList P ops _ _ (Act.put ⟨t, []⟩ (opAt ops k).dst v) W'
    rw [act_put_nil]
    exact kk _ (ht.put _ _ hd) W' hh
end
end Go.GB

/- Functions that can be run out: twins with a bound on rounds. -/
set_option linter.unusedVariables false
set_option linter.unusedSimpArgs false
namespace Go.GB
def loopF {σ ρ : Type} : Nat → (σ → Option (σ ⊕ ρ)) → σ → Option ρ
  | 0, _, _ => none
  | n + 1, body, s => match body s with
    | none => none
    | some (.inr r) => some r
    | some (.inl s') => loopF n body s'
def OLe {α : Type} (x y : Option α) : Prop := ∀ r, x = some r → y = some r
theorem OLe.refl {α : Type} (x : Option α) : OLe x x := fun _ h => h
theorem OLe.bind {α β : Type} {x y : Option α} {f g : α → Option β} (h : OLe x y) (hf : ∀ a, OLe (f a) (g a)) : OLe (Option.bind x f) (Option.bind y g) := fun r hr => by
  obtain ⟨a, ha, hb⟩ := bind_some hr
  rw [h a ha]; exact hf a r hb
theorem OLe.cond {α : Type} {b : Bool} {x y x' y' : Option α} (h : OLe x x') (h' : OLe y y') : OLe (bif b then x else y) (bif b then x' else y') := by
  cases b
  · exact h'
  · exact h
theorem loopF_R {σ ρ : Type} {body body' : σ → Option (σ ⊕ ρ)} (h : ∀ s, OLe (body s) (body' s)) : ∀ (n : Nat) (s : σ) (r : ρ), loopF n body s = some r → LoopR body' s r
  | 0, _, _, hr => by cases hr
  | n + 1, s, r, hr => by
    unfold loopF at hr
    cases hb : body s with
    | none => rw [hb] at hr; cases hr
    | some o =>
      rw [hb] at hr
      cases o with
      | inl s' => exact .step (h s _ hb) (loopF_R h n s' r hr)
      | inr r' => cases hr; exact .done (h s _ hb)
theorem OLe.loop {σ ρ : Type} {body body' : σ → Option (σ ⊕ ρ)} {n : Nat} {s : σ} (h : ∀ s, OLe (body s) (body' s)) : OLe (loopF n body s) (loopO body' s) := fun r hr => loopO_of (loopF_R h n s r hr)

/-! ### Loops that go up -/
/-- A loop that goes up, told by an invariant on its states. -/
theorem up_inv {σ ρ : Type} {body : σ → Option (σ ⊕ ρ)} (st : Nat → σ) {n : Nat} {r : ρ} (h : ∀ i : Nat, i < n → body (st i) = some (.inl (st (i + 1)))) (he : body (st n) = some (.inr r)) : ∀ i : Nat, i ≤ n → loopO body (st i) = some r := by
  intro i hi
  induction hd : n - i generalizing i with
  | zero =>
    have : i = n := by omega
    subst this
    exact loopO_of (.done he)
  | succ d ih => exact loopO_of (.step (h i (by omega)) (loopR_of (ih (i + 1) (by omega) (by omega))))
end Go.GB

/- What plain functions come to: a calculus for 'it answers, and its answer is ..'. -/
set_option linter.unusedVariables false
set_option linter.unusedSimpArgs false
namespace Go.GB
theorem wrap_up {i : Nat} (h : i < 4294967296) : IntKind.wrap .i64 ((i : Int) + 1) = ((i + 1 : Nat) : Int) := by rw [wrap64 (by omega) (by omega)]; omega
theorem ix_nat {α : Type} (xs : List α) (i : Nat) : ix xs (i : Int) = xs[i]? := by simp [ix]
theorem size_zero_iff {s : ByteArray} : (s.toList == (⟨#[]⟩ : ByteArray).toList) = decide (s.size = 0) := by
  rw [ByteArray.toList_eq, ByteArray.toList_eq]
  obtain ⟨⟨l⟩⟩ := s
  cases l <;> rfl
theorem toList_inj {a b : ByteArray} : (a.toList == b.toList) = true ↔ a = b := by
  rw [ByteArray.toList_eq, ByteArray.toList_eq]
  obtain ⟨⟨x⟩⟩ := a
  obtain ⟨⟨y⟩⟩ := b
  simp
end Go.GB

set_option linter.unusedVariables false
set_option linter.unusedSimpArgs false
set_option maxRecDepth 100000
namespace Go.GB
open Go.RowKit
theorem Holds.weaken {J I : Imm} {L : Own} {W : World} (h : Holds I L W) (hJ : J ≤ I) : Holds J L W :=
  ⟨fun b o hb => h.imm b o (hJ.h b o hb), h.own, h.nd, fun p hp => (by
    cases h0 : J.h p.1 with
    | none => rfl
    | some o => have h1 := h.dj p hp; rw [hJ.h _ _ h0] at h1; cases h1), h.os.trans hJ.os, h.tape.trans hJ.tape, h.out.trans hJ.out, by rw [← hJ.dr]; exact h.dr⟩
section
variable {P : Program} {ops : Array Oper} {k N : Nat} {K : KV} {I : Imm} {L : Own} {T : TPost}
/-- A store into a block of the call's own of which nothing but its size is known. -/
theorem gl_storeRaw {T' : TypeId} {xp xv : Operand} {g off : Nat} {cs : Array Value} {e : TypeId} {fz : Nat × Nat} {v : Value} {b : Bool} {L' : Own} (ho : (opAt ops k).op = .store T' xp xv) (h : readyKV ops k N K = true)
    (hp : kvOp K xp = some (.pointer (some ⟨g, off, none⟩))) (hx : kvOp K xv = some v) (hT : aggInfo P T' = some (b, v.cells.size)) (hone : ∀ x ∈ v.cells.toList, x.oneCell' = true) (hfz : FreeOf fz cs.size) (hle : off + v.cells.size ≤ cs.size)
    (hU : Upd L [(g, Obj.cells cs e fz)] [(g, Obj.cells (putSeg cs off v.cells.toList) e fz)] L')
    (kk : GLk P ops (k + 1) N K I L' T) (hd : (opAt ops k).dst = none) : GLk P ops k N K I L T := by
  refine gl_gen_skip h fun t ht W hW => ?_
  obtain ⟨R, h1, h2⟩ := hW.upd hU
  obtain ⟨W', hs, hg, hne, ho1, ho2, ho3⟩ := store_block (P := P) (g := g) (t := e) (fz := fz) v.cells.toList off 0 cs W (h1.mem (by simp)) hfz (by rw [Array.length_toList]; omega) hone
  refine ⟨I, L', W', ?_, h2 I W' ?_, by rw [hd]; exact kk⟩
  · simp [execOp, ho, ht.op hp, ht.op hx, Instr.storeAt, Instr.sureAddr, storeVar, (aggInfo_spec hT).2, hs]
  · exact Holds.set (A := []) h1 _ (by simpa using hg) hne ho1 ho2 ho3
end
/-! ### Rows of slices into blocks of the call's own -/
def Row2 (B : Own) (A : Option Addr) (m : Nat) : Prop := m = 0 ∨ ∃ g cells fz, A = some ⟨g, 0, none⟩ ∧ (g, Obj.cells cells 51 fz) ∈ B ∧ FreeOf fz cells.size ∧ m * 2 ≤ cells.size
def El (oc : Array Value) (B : Own) (j : Nat) : Prop := ∃ A m c, oc[j]? = some (.slice A m c) ∧ m ≤ 2147483648 ∧ Row2 B A m
theorem Row2.mono {B B' : Own} (hB : ∀ p ∈ B, p ∈ B') {A : Option Addr} {m : Nat} (h : Row2 B A m) : Row2 B' A m :=
  h.imp id fun ⟨g, cells, fz, h1, h2, h3⟩ => ⟨g, cells, fz, h1, hB _ h2, h3⟩
theorem Row2.put {X Y : Own} {g : Nat} {cells cells' : Array Value} {fz : Nat × Nat} (hs : cells'.size = cells.size) {A : Option Addr} {m : Nat} (h : Row2 (X ++ (g, Obj.cells cells 51 fz) :: Y) A m) : Row2 (X ++ (g, Obj.cells cells' 51 fz) :: Y) A m := by
  rcases h with h | ⟨g', c', fz', h1, h2, h3, h4⟩
  · exact .inl h
  · rcases List.mem_append.1 h2 with h5 | h5
    · exact .inr ⟨g', c', fz', h1, List.mem_append_left _ h5, h3, h4⟩
    · rcases List.mem_cons.1 h5 with h6 | h6
      · simp only [Prod.mk.injEq, Obj.cells.injEq] at h6
        obtain ⟨rfl, rfl, _, rfl⟩ := h6
        exact .inr ⟨g', cells', fz', h1, List.mem_append_right _ (by simp), by rw [hs]; exact h3, by rw [hs]; exact h4⟩
      · exact .inr ⟨g', c', fz', h1, List.mem_append_right _ (List.mem_cons_of_mem _ h6), h3, h4⟩
theorem El.put {oc : Array Value} {X Y : Own} {g : Nat} {cells cells' : Array Value} {fz : Nat × Nat} (hs : cells'.size = cells.size) {j : Nat} (h : El oc (X ++ (g, Obj.cells cells 51 fz) :: Y) j) : El oc (X ++ (g, Obj.cells cells' 51 fz) :: Y) j :=
  let ⟨A, m, c, h1, h2, h3⟩ := h
  ⟨A, m, c, h1, h2, h3.put hs⟩
/-- The rows of a row of new slices, as blocks of the call's own. -/
theorem fr_blocks {α : Type} {d : Kd α} (hn : d.n = 2) {J0 I : Imm} {oc : Array Value} : ∀ (r : List (List α)) (o : Nat), (∀ i x, r[i]? = some x → ∃ l, (Kd.fr J0 d 51).R I x l ∧ ∀ j v, l[j]? = some v → oc[o + i + j]? = some v) →
    ∃ B : Own, (B.map Prod.fst).Nodup ∧ (∀ p ∈ B, I.h p.1 = some p.2 ∧ J0.h p.1 = none) ∧ ∀ i, i < r.length → El oc B (o + i)
  | [], o, _ => ⟨[], by simp, by simp, fun i hi => by simp at hi⟩
  | x :: r, o, h => by
    obtain ⟨B, b1, b2, b3⟩ := fr_blocks hn r (o + 1) (fun i y hy => by
      obtain ⟨l, h1, h2⟩ := h (i + 1) y (by simpa using hy)
      exact ⟨l, h1, fun j v hj => by have := h2 j v hj; rwa [show o + (i + 1) + j = o + 1 + i + j from by omega] at this⟩)
    obtain ⟨l, ⟨A, c, rfl, hr, hf⟩, h2⟩ := h 0 x rfl
    have hc := h2 0 _ rfl
    have hmx : x.length ≤ 2147483648 := hr.max
    have rest : ∀ B' : Own, (∀ p ∈ B, p ∈ B') → Row2 B' A x.length → ∀ i, i < (x :: r).length → El oc B' (o + i) := by
      intro B' hB hx i hi
      cases i with
      | zero => exact ⟨A, x.length, c, hc, hmx, hx⟩
      | succ i =>
        obtain ⟨A', m', c', q1, q2, q3⟩ := b3 i (by simpa using hi)
        exact ⟨A', m', c', by rw [← q1]; congr 1; omega, q2, q3.mono hB⟩
    rcases hf with h0 | ⟨g, cells, fz, rfl, q1, q2, q3, q4⟩
    · exact ⟨B, b1, b2, rest B (fun _ hp => hp) (.inl h0)⟩
    · rw [hn] at q3
      by_cases hg : g ∈ B.map Prod.fst
      · obtain ⟨p, hp, hpe⟩ := List.mem_map.1 hg
        obtain ⟨e1, _⟩ := b2 p hp
        rw [hpe, q1] at e1
        have hpm : (g, Obj.cells cells 51 fz) ∈ B := by
          have : p = (g, Obj.cells cells 51 fz) := Prod.ext hpe (Option.some.inj e1).symm
          rwa [this] at hp
        exact ⟨B, b1, b2, rest B (fun _ hp => hp) (.inr ⟨g, cells, fz, rfl, hpm, q2, q3⟩)⟩
      · refine ⟨(g, Obj.cells cells 51 fz) :: B, ?_, ?_, rest _ (fun _ hp => List.mem_cons_of_mem _ hp) (.inr ⟨g, cells, fz, rfl, by simp, q2, q3⟩)⟩
        · rw [List.map_cons, List.nodup_cons]; exact ⟨hg, b1⟩
        · intro p hp
          rcases List.mem_cons.1 hp with rfl | hp
          · exact ⟨q1, q4⟩
          · exact b2 p hp
theorem atl_head {I : Imm} {L : Own} {g o : Nat} {cs : Array Value} {e : TypeId} {fz : Nat × Nat} {v : Value} (h : cs[o]? = some v) : AtL I ((g, Obj.cells cs e fz) :: L) ⟨g, o, none⟩ [v] := fun W hW j w hj => by
  cases j with
  | zero =>
    cases hj
    rw [add_zero']
    have := hW.own (g, Obj.cells cs e fz) (by simp)
    simp only [World.cell?, this]
    exact h
  | succ j => simp at hj
theorem add_to (g j : Nat) : (⟨g, j, none⟩ : Addr) = (⟨g, 0, none⟩ : Addr).add j := by unfold Addr.add; split <;> simp_all
theorem upd_in {X Y E L : Own} {p q : Nat × Obj} {e : Nat × Obj} : Upd (e :: ((X ++ p :: Y) ++ L)) [p] [q] (e :: ((X ++ q :: Y) ++ L)) := by
  have h := Upd.one e (Upd.app X (Upd.head [p] [q] (Y ++ L)))
  simpa using h
noncomputable def upTo (n : Nat) : Int → Option (Int ⊕ Unit) := fun s => bif decide (s < (n : Int)) then some (.inl (IntKind.wrap .i64 (s + 1))) else some (.inr ())
theorem upTo_eq {n : Nat} (hn : n < 4294967296) : ∀ (d i : Nat), i + d = n → loopO (upTo n) (i : Int) = some ()
  | 0, i, h => by
    obtain rfl : i = n := by omega
    rw [loopO_eq]
    unfold upTo
    rw [show decide ((i : Int) < (i : Int)) = false from decide_eq_false (by omega)]; rfl
  | d + 1, i, h => by
    rw [loopO_eq]
    have : upTo n (i : Int) = some (.inl ((i + 1 : Nat) : Int)) := by
      unfold upTo
      rw [show decide ((i : Int) < (n : Int)) = true from decide_eq_true (by omega), wrap_up (show i < 4294967296 by omega)]; rfl
    rw [this]
    exact upTo_eq hn d (i + 1) (by omega)
end Go.GB
namespace Go.Proofs.YtcnnbaneoehilaaDoor
open Go.RowKit Go.GB
/-- what is owned while it is spoilt -/
def SpI (n : Nat) (A : Option Addr) (L L' : Own) : Prop := (n = 0 ∧ L = L') ∨ ∃ go oc fzo B, A = some ⟨go, 0, none⟩ ∧ L' = (go, Obj.cells oc 39 fzo) :: (B ++ L) ∧ FreeOf fzo oc.size ∧ n ≤ oc.size ∧ ∀ j, j < n → El oc B j
def spv : Value := .agg #[.string (⟨#[115, 112, 111, 105, 108, 116]⟩ : ByteArray), .string (⟨#[]⟩ : ByteArray)]
theorem spv_one : ∀ x ∈ spv.cells.toList, x.oneCell' = true := by
  intro x hx
  have h1 : x ∈ [Value.string (⟨#[115, 112, 111, 105, 108, 116]⟩ : ByteArray), Value.string (⟨#[]⟩ : ByteArray)] := hx
  rcases List.mem_cons.1 h1 with rfl | h1
  · rfl
  · rcases List.mem_cons.1 h1 with rfl | h1
    · rfl
    · cases h1
theorem nil_one : ∀ x ∈ (Value.slice none 0 0).cells.toList, x.oneCell' = true := by
  intro x hx
  have h1 : x ∈ [Value.slice none 0 0] := hx
  rcases List.mem_cons.1 h1 with rfl | h1
  · rfl
  · cases h1
set_option maxHeartbeats 1000000 in
theorem spoil_body {n c0 : Nat} {A0 : Option Addr} {J0 : Imm} {L L0 : Own} (hn : n ≤ 2147483648) (h0 : SpI n A0 L L0) :
    CallsTo Tryd.prog 15 #[.slice A0 n c0] J0 L0 (fun v I' L' => v = .tuple #[] ∧ SpI n A0 L L') := by
  refine callsTo_body (N := 29) Tryd.func15 (by kernel_rfl) (by kernel_rfl) (by kernel_rfl) ?_
  refine gk_pick [0] (K' := [(0, .slice A0 n c0)]) (by kernel_rfl) ?_
  refine gk_seq (by kernel_rfl) ?_
  refine gk_region (by kernel_rfl) ?_
  refine gl_pure 3 [0, 5, 6] (K' := [(0, .slice A0 n c0), (5, .int .i64 (n : Int)), (6, .int .i64 0)]) (by kernel_rfl) ?_
  refine gl_atE (by kernel_rfl) ?_
  refine ge_seq ?_
  refine gk_join (fun t I' L' => J0 ≤ I' ∧ SpI n A0 L L' ∧ Knows 29 [] t) ?_ ?_
  · refine gk_block (by kernel_rfl) ?_
    refine gk_pick [0, 5, 6] (K' := [(0, .slice A0 n c0), (5, .int .i64 (n : Int)), (6, .int .i64 0)]) (by kernel_rfl) ?_
    intro t hK
    refine gc_loop (upTo n) (fun s t I' L' => J0 ≤ I' ∧ SpI n A0 L L' ∧ (∃ i : Nat, s = (i : Int) ∧ i ≤ n) ∧ Knows 29 [(0, .slice A0 n c0), (5, .int .i64 (n : Int)), (6, .int .i64 s)] t) (by kernel_rfl) ?_ (upTo_eq (by omega) n 0 (by omega)) ⟨Imm.refl _, h0, ⟨0, rfl, by omega⟩, hK⟩
    rintro s o t I1 L1 hb ⟨hI1, hS1, ⟨i, rfl, hi⟩, hK1⟩
    unfold upTo at hb
    refine gk_at hK1 ?_
    refine gk_seq (by kernel_rfl) ?_
    refine gk_region (by kernel_rfl) ?_
    refine gl_pure 1 [0, 5, 6, 7] (K' := [(0, .slice A0 n c0), (5, .int .i64 (n : Int)), (6, .int .i64 (i : Int)), (7, .bool (decide ((i : Int) < (n : Int))))]) (by kernel_rfl) ?_
    refine gl_atE (by kernel_rfl) ?_
    refine ge_seq ?_
    refine gk_seq (by kernel_rfl) ?_
    refine gk_cond (b := (decide ((i : Int) < (n : Int)))) (by kernel_rfl) (by kernel_rfl) (fun hc => ?_) (fun hc => ?_)
    · have hb := cond_t hc hb
      have hin : i < n := by have := of_decide_eq_true hc; omega
      rcases hS1 with ⟨hz, _⟩ | ⟨go, oc, fzo, B, rfl, rfl, hfo, hno, hel⟩
      · omega
      obtain ⟨A, m, c, hoc, hm, hrow⟩ := hel i hin
      refine gk_skip (by kernel_rfl) ?_
      refine ge_seq ?_
      refine gk_seq (by kernel_rfl) ?_
      refine gk_block (by kernel_rfl) ?_
      refine gk_seq (by kernel_rfl) ?_
      refine gk_region (by kernel_rfl) ?_
      refine gl_pure 2 [0, 2, 5, 6] (K' := [(0, .slice (some ⟨go, 0, none⟩) n c0), (2, .int .i64 (i : Int)), (5, .int .i64 (n : Int)), (6, .int .i64 (i : Int))]) (by kernel_rfl) ?_
      refine gl_atE (by kernel_rfl) ?_
      refine ge_seq ?_
      refine gk_seq (by kernel_rfl) ?_
      refine gk_seq (by kernel_rfl) ?_
      refine gk_region (by kernel_rfl) ?_
      refine gl_pure 2 [0, 2, 5, 6, 9, 10] (K' := [(0, .slice (some ⟨go, 0, none⟩) n c0), (2, .int .i64 (i : Int)), (5, .int .i64 (n : Int)), (6, .int .i64 (i : Int)), (9, .slice (some ⟨go, 0, none⟩) n c0), (10, .int .i64 (i : Int))]) (by kernel_rfl) ?_
      have hia : ∃ a, some (⟨go, 0, none⟩ : Addr) = some a ∧ (⟨go, i, none⟩ : Addr) = a.add ((i : Int).toNat * 1) := ⟨_, rfl, by rw [Int.toNat_natCast, Nat.mul_one]; exact add_to go i⟩
      refine gl_indexAddrF (c := c0) (T' := 22) (e := 39) (xs := (.tmp 9)) (xi := (.tmp 10)) (kd := .i64) (len := n) hia (by omega) (by omega) (by kernel_rfl) (by kernel_rfl) (by kernel_rfl) (by kernel_rfl) (by kernel_rfl) ?_
      refine gl_loadO (T' := 39) (xp := (.tmp 11)) (p := ⟨go, i, none⟩) (c := .slice A m c) (n := 1) (by kernel_rfl) (by kernel_rfl) (by kernel_rfl) (by kernel_rfl) (atl_head hoc) ?_
      refine gl_pure 2 [0, 2, 5, 6, 13, 14] (K' := [(0, .slice (some ⟨go, 0, none⟩) n c0), (2, .int .i64 (i : Int)), (5, .int .i64 (n : Int)), (6, .int .i64 (i : Int)), (13, .int .i64 (m : Int)), (14, .int .i64 0)]) (by kernel_rfl) ?_
      refine gl_atE (by kernel_rfl) ?_
      refine ge_seq ?_
      refine gk_join (fun t I' L' => ∃ B', L' = (go, Obj.cells oc 39 fzo) :: (B' ++ L) ∧ (∀ j, j < n → El oc B' j) ∧ J0 ≤ I' ∧ Knows 29 [(0, .slice (some ⟨go, 0, none⟩) n c0), (2, .int .i64 (i : Int)), (5, .int .i64 (n : Int)), (6, .int .i64 (i : Int))] t) ?_ ?_
      · refine gk_block (by kernel_rfl) ?_
        refine gk_pick [0, 2, 5, 6, 13, 14] (K' := [(0, .slice (some ⟨go, 0, none⟩) n c0), (2, .int .i64 (i : Int)), (5, .int .i64 (n : Int)), (6, .int .i64 (i : Int)), (13, .int .i64 (m : Int)), (14, .int .i64 0)]) (by kernel_rfl) ?_
        intro t hK
        refine gc_loop (upTo m) (fun s t I' L' => ∃ B', L' = (go, Obj.cells oc 39 fzo) :: (B' ++ L) ∧ (∀ j, j < n → El oc B' j) ∧ Row2 B' A m ∧ J0 ≤ I' ∧ (∃ k : Nat, s = (k : Int) ∧ k ≤ m) ∧ Knows 29 [(0, .slice (some ⟨go, 0, none⟩) n c0), (2, .int .i64 (i : Int)), (5, .int .i64 (n : Int)), (6, .int .i64 (i : Int)), (13, .int .i64 (m : Int)), (14, .int .i64 s)] t) (by kernel_rfl) ?_ (upTo_eq (by omega) m 0 (by omega)) ⟨B, rfl, hel, hrow, hI1, ⟨0, rfl, by omega⟩, hK⟩
        rintro s o2 t I3 L3 hb2 ⟨B', rfl, hel', hrow', hI3, ⟨k, rfl, hk⟩, hK3⟩
        unfold upTo at hb2
        refine gk_at hK3 ?_
        refine gk_seq (by kernel_rfl) ?_
        refine gk_region (by kernel_rfl) ?_
        refine gl_pure 1 [0, 2, 5, 6, 13, 14, 15] (K' := [(0, .slice (some ⟨go, 0, none⟩) n c0), (2, .int .i64 (i : Int)), (5, .int .i64 (n : Int)), (6, .int .i64 (i : Int)), (13, .int .i64 (m : Int)), (14, .int .i64 (k : Int)), (15, .bool (decide ((k : Int) < (m : Int))))]) (by kernel_rfl) ?_
        refine gl_atE (by kernel_rfl) ?_
        refine ge_seq ?_
        refine gk_seq (by kernel_rfl) ?_
        refine gk_cond (b := (decide ((k : Int) < (m : Int)))) (by kernel_rfl) (by kernel_rfl) (fun hc2 => ?_) (fun hc2 => ?_)
        · have hb2 := cond_t hc2 hb2
          have hkm : k < m := by have := of_decide_eq_true hc2; omega
          rcases hrow' with h0 | ⟨g, cells, fz, rfl, hmem, hfz, hsz⟩
          · omega
          obtain ⟨X, Y, rfl⟩ := List.append_of_mem hmem
          refine gk_skip (by kernel_rfl) ?_
          refine ge_seq ?_
          refine gk_seq (by kernel_rfl) ?_
          refine gk_block (by kernel_rfl) ?_
          refine gk_seq (by kernel_rfl) ?_
          refine gk_region (by kernel_rfl) ?_
          refine gl_pure 2 [0, 2, 3, 5, 6, 13, 14] (K' := [(0, .slice (some ⟨go, 0, none⟩) n c0), (2, .int .i64 (i : Int)), (3, .int .i64 (k : Int)), (5, .int .i64 (n : Int)), (6, .int .i64 (i : Int)), (13, .int .i64 (m : Int)), (14, .int .i64 (k : Int))]) (by kernel_rfl) ?_
          refine gl_atE (by kernel_rfl) ?_
          refine ge_seq ?_
          refine gk_region (by kernel_rfl) ?_
          refine gl_pure 2 [0, 2, 3, 5, 6, 13, 14, 17, 18] (K' := [(0, .slice (some ⟨go, 0, none⟩) n c0), (2, .int .i64 (i : Int)), (3, .int .i64 (k : Int)), (5, .int .i64 (n : Int)), (6, .int .i64 (i : Int)), (13, .int .i64 (m : Int)), (14, .int .i64 (k : Int)), (17, .slice (some ⟨go, 0, none⟩) n c0), (18, .int .i64 (i : Int))]) (by kernel_rfl) ?_
          refine gl_indexAddrF (c := c0) (T' := 22) (e := 39) (xs := (.tmp 17)) (xi := (.tmp 18)) (kd := .i64) (len := n) hia (by omega) (by omega) (by kernel_rfl) (by kernel_rfl) (by kernel_rfl) (by kernel_rfl) (by kernel_rfl) ?_
          refine gl_loadO (T' := 39) (xp := (.tmp 19)) (p := ⟨go, i, none⟩) (c := .slice (some ⟨g, 0, none⟩) m c) (n := 1) (by kernel_rfl) (by kernel_rfl) (by kernel_rfl) (by kernel_rfl) (atl_head hoc) ?_
          refine gl_pure 2 [0, 2, 5, 6, 13, 14, 20, 21, 22] (K' := [(0, .slice (some ⟨go, 0, none⟩) n c0), (2, .int .i64 (i : Int)), (5, .int .i64 (n : Int)), (6, .int .i64 (i : Int)), (13, .int .i64 (m : Int)), (14, .int .i64 (k : Int)), (20, .slice (some ⟨g, 0, none⟩) m c), (21, .int .i64 (k : Int)), (22, spv)]) (by kernel_rfl) ?_
          have hka : ∃ a, some (⟨g, 0, none⟩ : Addr) = some a ∧ (⟨g, k * 2, none⟩ : Addr) = a.add ((k : Int).toNat * 2) := ⟨_, rfl, by rw [Int.toNat_natCast]; exact add_to g (k * 2)⟩
          refine gl_indexAddrF (c := c) (T' := 39) (e := 51) (xs := (.tmp 20)) (xi := (.tmp 21)) (kd := .i64) (len := m) hka (by omega) (by omega) (by kernel_rfl) (by kernel_rfl) (by kernel_rfl) (by kernel_rfl) (by kernel_rfl) ?_
          have hps : (putSeg cells (k * 2) spv.cells.toList).size = cells.size := putSeg_size _ _ _
          refine gl_storeRaw (T' := 51) (xp := (.tmp 23)) (xv := (.tmp 22)) (v := spv) (b := true) (g := g) (off := k * 2) (cs := cells) (e := 51) (fz := fz) (by kernel_rfl) (by kernel_rfl) (by kernel_rfl) (by kernel_rfl) (by kernel_rfl) spv_one hfz (by show k * 2 + 2 ≤ _; omega) (upd_in (E := [])) ?_ (by kernel_rfl)
          refine gl_atE (by kernel_rfl) ?_
          refine ge_block_normal ?_
          refine ge_seq ?_
          refine gk_region (by kernel_rfl) ?_
          refine gl_pure 2 [0, 2, 5, 6, 13, 14] (K' := [(0, .slice (some ⟨go, 0, none⟩) n c0), (2, .int .i64 (i : Int)), (5, .int .i64 (n : Int)), (6, .int .i64 (i : Int)), (13, .int .i64 (m : Int)), (14, .int .i64 (IntKind.wrap .i64 ((k : Int) + 1)))]) (by kernel_rfl) ?_
          refine gl_atE (by kernel_rfl) ?_
          obtain rfl := some_inj hb2
          exact ge_round fun t ht => ⟨_, rfl, fun j hj => (hel' j hj).put hps, Row2.put hps (.inr ⟨g, cells, fz, rfl, hmem, hfz, hsz⟩), hI3, ⟨k + 1, wrap_up (by omega), hkm⟩, ht⟩
        · have hb2 := cond_f hc2 hb2
          refine gk_exit (by kernel_rfl) ?_
          refine ge_seq_exit ?_
          obtain rfl := some_inj hb2
          refine ge_round_out (fun hrr => ?_) (by intro h; cases h)
          refine ge_block_hit (by kernel_rfl) ?_
          exact ge_mid fun t ht => ⟨B', rfl, hel', hI3, ht.pick (l := [0, 2, 5, 6]) (by kernel_rfl)⟩
      · rintro t I4 L4 ⟨B', rfl, hel', hI4, hK4⟩
        refine ge_at hK4 ?_
        refine ge_seq ?_
        refine gk_region (by kernel_rfl) ?_
        refine gl_pure 2 [0, 5, 6, 25, 26] (K' := [(0, .slice (some ⟨go, 0, none⟩) n c0), (5, .int .i64 (n : Int)), (6, .int .i64 (i : Int)), (25, .slice (some ⟨go, 0, none⟩) n c0), (26, .int .i64 (i : Int))]) (by kernel_rfl) ?_
        refine gl_indexAddrF (c := c0) (T' := 22) (e := 39) (xs := (.tmp 25)) (xi := (.tmp 26)) (kd := .i64) (len := n) hia (by omega) (by omega) (by kernel_rfl) (by kernel_rfl) (by kernel_rfl) (by kernel_rfl) (by kernel_rfl) ?_
        refine gl_storeRaw (T' := 39) (xp := (.tmp 27)) (xv := (.const (.slice none 0 0))) (v := .slice none 0 0) (b := false) (g := go) (off := i) (cs := oc) (e := 39) (fz := fzo) (by kernel_rfl) (by kernel_rfl) (by kernel_rfl) (by kernel_rfl) (by kernel_rfl) nil_one hfo (by show i + 1 ≤ _; omega) (Upd.head [(go, Obj.cells oc 39 fzo)] _ _) ?_ (by kernel_rfl)
        refine gl_atE (by kernel_rfl) ?_
        refine ge_block_normal ?_
        refine ge_seq ?_
        refine gk_region (by kernel_rfl) ?_
        refine gl_pure 2 [0, 5, 6] (K' := [(0, .slice (some ⟨go, 0, none⟩) n c0), (5, .int .i64 (n : Int)), (6, .int .i64 (IntKind.wrap .i64 ((i : Int) + 1)))]) (by kernel_rfl) ?_
        refine gl_atE (by kernel_rfl) ?_
        obtain rfl := some_inj hb
        have hsz : (putSeg oc i (Value.slice none 0 0).cells.toList).size = oc.size := putSeg_size _ _ _
        refine ge_round fun t ht => ⟨hI4, .inr ⟨go, _, fzo, B', rfl, rfl, by rw [hsz]; exact hfo, by rw [hsz]; exact hno, fun j hj => ?_⟩, ⟨i + 1, wrap_up (by omega), hin⟩, ht⟩
        have hg := putSeg_get (Value.slice none 0 0).cells.toList oc i (by show i + 1 ≤ _; omega) j
        have hcl : (Value.slice none 0 0).cells.toList = [Value.slice none 0 0] := rfl
        by_cases hji : j = i
        · subst hji
          refine ⟨none, 0, 0, ?_, by omega, .inl rfl⟩
          rw [hg, hcl, if_pos ⟨by omega, by simp⟩, Nat.sub_self]; rfl
        · obtain ⟨A', m', c', q1, q2, q3⟩ := hel' j hj
          refine ⟨A', m', c', ?_, q2, q3⟩
          rw [hg, hcl, if_neg (by simp only [List.length_cons, List.length_nil]; omega)]
          exact q1
    · have hb := cond_f hc hb
      refine gk_exit (by kernel_rfl) ?_
      refine ge_seq_exit ?_
      obtain rfl := some_inj hb
      refine ge_round_out (fun hrr => ?_) (by intro h; cases h)
      refine ge_block_hit (by kernel_rfl) ?_
      exact ge_mid fun t ht => ⟨hI1, hS1, ht.pick (l := []) (by kernel_rfl)⟩
  · rintro t I2 L2 ⟨hI2, hS2, hK2⟩
    refine ge_at hK2 ?_
    exact ge_result trivial ResOk.nil hI2 ⟨rfl, hS2⟩
theorem tocsinlaw26_spoil_walkF {α : Type} {d : Kd α} {J0 I : Imm} {L C : Own} {A : Option Addr} {c : Nat} {r : List (List α)} (hJ : J0 ≤ I) (hO : OwnS (Kd.fr J0 d 51) 39 I A c r C) (W : World) (hW : Holds I (C ++ L) W) (hn : d.n = 2 := by rfl) :
    Calls Tryd.prog 15 #[.slice A r.length c] W fun e W' => e = .returned (.tuple #[]) ∧ Holds J0 L W' := by
  obtain ⟨L0, hL0, hS⟩ : ∃ L0, Holds J0 L0 W ∧ SpI r.length A L L0 := by
    rcases hO with ⟨rfl, rfl, rfl, rfl⟩ | ⟨go, oc, fzo, rfl, rfl, h3, h4, h5, h6, h7⟩
    · exact ⟨L, hW.weaken hJ, .inl ⟨rfl, rfl⟩⟩
    · obtain ⟨B, b1, b2, b3⟩ := fr_blocks hn (oc := oc) (J0 := J0) (I := I) (d := d) r 0 (fun i x hx => by
        obtain ⟨l, q1, q2⟩ := h6.at_ i x hx
        exact ⟨l, q1, fun j v hj => by have := q2 j v hj; rwa [show i * (Kd.fr J0 d 51).n + j = 0 + i + j from by show i * 1 + j = _; omega] at this⟩)
      have h1 : (Kd.fr J0 d 51).n = 1 := rfl
      refine ⟨(go, Obj.cells oc 39 fzo) :: (B ++ L), ?_, .inr ⟨go, oc, fzo, B, rfl, rfl, h3, by rw [h1] at h5; omega, fun j hj => by have := b3 j hj; rwa [Nat.zero_add] at this⟩⟩
      have hW0 := hW.weaken hJ
      have hout : ∀ p ∈ B, ∀ q ∈ [(go, Obj.cells oc 39 fzo)] ++ L, p.1 ≠ q.1 := fun p hp q hq e => by
        have e1 := hW.dj q hq
        rw [← e, (b2 p hp).1] at e1; cases e1
      refine ⟨hW0.imm, fun p hp => ?_, ?_, fun p hp => ?_, hW0.os, hW0.tape, hW0.out, hW0.dr⟩
      · rcases List.mem_cons.1 hp with rfl | hp
        · exact hW0.own _ (by simp)
        · rcases List.mem_append.1 hp with hp | hp
          · exact hW.imm _ _ (b2 p hp).1
          · exact hW0.own _ (List.mem_append_right _ hp)
      · have hnd := hW0.nd
        simp only [List.cons_append, List.nil_append, List.map_cons, List.nodup_cons] at hnd
        rw [List.map_cons, List.map_append, List.nodup_cons, List.nodup_append]
        refine ⟨fun hm => ?_, b1, hnd.2, fun a ha b hb e => ?_⟩
        · rcases List.mem_append.1 hm with hm | hm
          · obtain ⟨p, hp, e⟩ := List.mem_map.1 hm
            exact hout p hp (go, Obj.cells oc 39 fzo) (by simp) e
          · exact hnd.1 hm
        · obtain ⟨p, hp, rfl⟩ := List.mem_map.1 ha
          obtain ⟨q, hq, rfl⟩ := List.mem_map.1 hb
          exact hout p hp q (List.mem_append_right _ hq) e
      · rcases List.mem_cons.1 hp with rfl | hp
        · exact hW0.dj _ (by simp)
        · rcases List.mem_append.1 hp with hp | hp
          · exact (b2 p hp).2
          · exact hW0.dj _ (List.mem_append_right _ hp)
  have hlen : r.length ≤ 2147483648 := by
    rcases hO with ⟨rfl, _⟩ | ⟨_, _, _, _, _, _, _, _, _, h7⟩
    · simp
    · exact h7
  refine (spoil_body (c0 := c) hlen hS W hL0).mono ?_
  rintro e W' ⟨v, I', L', rfl, hI, hh, rfl, hS'⟩
  refine ⟨rfl, ?_⟩
  have hw := hh.weaken hI
  rcases hS' with ⟨_, rfl⟩ | ⟨go, oc, fzo, B, _, rfl, _⟩
  · exact hw
  · exact hw.sub ((List.sublist_append_right B L).trans (List.sublist_cons_self _ _))
end Go.Proofs.YtcnnbaneoehilaaDoor
