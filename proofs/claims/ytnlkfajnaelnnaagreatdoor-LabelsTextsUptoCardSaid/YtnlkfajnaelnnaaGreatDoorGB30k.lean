/- A copy into the tail of a row of the call's own. -/
import Derived.Test.YtnlkfajnaelnnaaGreatDoorGB8k
import Derived.Lib.Bytealg
import Derived.Laws.StructEq
import Derived.Scope
import Derived.Lib.SliceRun
import Derived.Lib.Overlaps
import Derived.Laws.MakeOwn
import Derived.Below
import Derived.Shelf.SlSortCmp.NoneTotal
import Derived.Lib.UnsafeStr
import Derived.WideLaws
import Derived.Shelf.Strconv.Itoa4
import Derived.Shelf.Abstract
import Derived.Shelf.RegionOpen
import Derived.Shelf.RegionOpenPlain
import Derived.WalkKit
import Derived.OwnWalkIn
import Derived.TacticsInMore
import Derived.Lib.Builder
import Derived.RangeFuncOwn
import Derived.Laws.Externs
import Derived.Test.YtnlkfajnaelnnaaGreatDoorChecked
import Derived.WalkSpells
/- Calls of functions without a body; structs that are compared; labels and scopes; slices.Clone. -/
set_option linter.unusedVariables false
set_option linter.unusedSimpArgs false
namespace Go.GB

section
variable {P : Program} {c : Code} {ops : Array Oper} {k N : Nat} {K : KV} {I : Imm} {L : Own} {T : TPost} {Q : Post}

/-! ### 1. Functions without a body -/
def calleeFn (K : KV) (o : Oper) : Option (FuncId × List Value) := match o.op with
  | .call c => match c.callee with
    | .value x => match kvOp K x, kvOps K c.args.toList with
      | some (.func (.func f) a b), some l => some (f, (a ++ l.toArray ++ b).toList)
      | _, _ => none
    | _ => none
  | _ => none
theorem gl_extern {f : FuncId} {l : List Value} {v : Value} (h : readyKV ops k N K = true) (hc : calleeFn K (opAt ops k) = some (f, l)) (hr : ∀ W, Holds I L W → (callFunc f l.toArray).run P W = .ok (.value v) W)
    (kk : GLk P ops (k + 1) N (kvPut K (opAt ops k).dst v) I L T) : GLk P ops k N K I L T := by
  refine gl_step h (fun t ht W hW => ?_) kk
  unfold calleeFn at hc
  split at hc <;> try (cases hc; done)
  rename_i c ho
  split at hc <;> try (cases hc; done)
  rename_i x hx
  split at hc <;> try (cases hc; done)
  rename_i g a b l' hv hl
  simp only [Option.some.injEq, Prod.mk.injEq] at hc
  obtain ⟨rfl, rfl⟩ := hc
  have hargs : c.args.map (Act.mk t []).eval = l'.toArray := by
    have := kvOps_map ht hl
    rw [← Array.toList_inj, Array.toList_map]; exact this
  have := hr W hW
  simp only [execOp, ho, resolve, hx, ht.op hv, Deferred.ofValue, hargs, Sem.run_bind, Sem.run_pure, Result.andThen_ok, invoke]
  have e1 : (a ++ l'.toArray ++ b).toList.toArray = a ++ l'.toArray ++ b := by simp
  rw [e1] at this
  exact this
theorem gl_cmpstring {f : FuncId} {fn : Func} {a b : ByteArray} (hf : P.funcs[f]? = some fn) (h1 : (fn.name == "runtime.NumGoroutine") = false) (h2 : fn.body.isNone = true) (h3 : Extern.findNext fn = none) (h4 : Extern.find fn = some Extern.BytealgCompare.compare)
    (h : readyKV ops k N K = true) (hc : calleeFn K (opAt ops k) = some (f, [.string a, .string b]))
    (kk : GLk P ops (k + 1) N (kvPut K (opAt ops k).dst (.int .i64 (Lib.compareBytes a.data.toList b.data.toList))) I L T) : GLk P ops k N K I L T :=
  gl_extern h hc (fun W _ => by rw [run_callFunc_extern hf h1 h2 h3 h4, Lib.run_compareString]; rfl) kk

/-! ### 2. Structs that are compared -/
def eqVal (P : Program) (t : TypeId) (x y : Value) : Option Bool := match P.underlying t, x, y with
  | some .bool, .bool a, .bool b => some (a == b)
  | some (.int _), .int k a, .int k' b => bif decide (k = k') then some (a == b) else none
  | some .string, .string a, .string b => some (a.toList == b.toList)
  | _, _, _ => none
theorem eqVal_run {t : TypeId} {x y : Value} {b : Bool} (h : eqVal P t x y = some b) (d : Nat) (W : World) : (Op.equalIn (d + 1) t x y).run P W = .ok b W := by
  unfold eqVal at h
  split at h
  · rename_i hu
    simp only [Option.some.injEq] at h
    rw [run_equalIn_bool' W d t _ _ hu, h]
  · rename_i k a k' b' hu
    cases hk : decide (k = k') with
    | false => rw [hk] at h; cases h
    | true =>
      rw [hk] at h
      simp only [cond_true, Option.some.injEq] at h
      have := of_decide_eq_true hk
      subst this
      rw [run_equalIn_int W d t _ _ _ _ hu, h]
  · rename_i hu
    simp only [Option.some.injEq] at h
    rw [run_equalIn_string W d t _ _ hu, h]
  · cases h
def eqField (P : Program) (xs ys : Array Value) (f : Field) : Option Bool :=
  bif decide (f.name ≠ "_") then match aggInfo P f.type, xs[f.offset]?, ys[f.offset]? with
    | some (false, _), some a, some b => eqVal P f.type a b
    | _, _, _ => none
  else none
theorem part_one {t : TypeId} {n : Nat} (h : aggInfo P t = some (false, n)) {cs : Array Value} {o : Nat} {v : Value} (hc : cs[o]? = some v) (W : World) : (part t cs o).run P W = .ok v W := by
  simp [part, (aggInfo_spec h).1, hc]
def eqFieldsV (P : Program) (xs ys : Array Value) : List Field → Option Bool
  | [] => some true
  | [f] => eqField P xs ys f
  | f :: g :: fs => match eqField P xs ys f, eqFieldsV P xs ys (g :: fs) with
    | some a, some b => some (a && b)
    | _, _ => none
theorem eqField_run {xs ys : Array Value} {f : Field} {b : Bool} (h : eqField P xs ys f = some b) (d : Nat) (fs : List Field) (W : World) :
    (Op.eqFields (d + 1) xs ys (f :: fs)).run P W = if b = false then .ok false W else (Op.eqFields (d + 1) xs ys fs).run P W := by
  unfold eqField at h
  cases hn : decide (f.name ≠ "_") with
  | false => rw [hn] at h; cases h
  | true =>
    rw [hn] at h
    simp only [cond_true] at h
    have hn' : f.name ≠ "_" := of_decide_eq_true hn
    split at h <;> try (cases h; done)
    rename_i n a b' hT ha hb
    simp only [Op.eqFields, if_pos hn', Sem.run_bind, part_one hT ha, part_one hT hb, Result.andThen_ok, eqVal_run h]
    cases b <;> simp
theorem eqFieldsV_run (d : Nat) (W : World) {xs ys : Array Value} : ∀ (fs : List Field) (b : Bool), eqFieldsV P xs ys fs = some b → (Op.eqFields (d + 1) xs ys fs).run P W = .ok b W
  | [], b, h => by simp only [eqFieldsV, Option.some.injEq] at h; subst h; simp [Op.eqFields]
  | [f], b, h => by
    rw [eqField_run h]
    cases b <;> simp [Op.eqFields]
  | f :: g :: fs, b, h => by
    simp only [eqFieldsV] at h
    split at h <;> try (cases h; done)
    rename_i a b' ha hb
    simp only [Option.some.injEq] at h
    subst h
    rw [eqField_run ha, eqFieldsV_run d W (g :: fs) b' hb]
    cases a <;> simp
def eqAgg (P : Program) (t : TypeId) (xs ys : Array Value) : Option Bool :=
  match P.underlying t with
  | some (.struct fs) => bif P.stoodInHeld t || P.eqGuardType P.depth t then none else eqFieldsV P xs ys fs.toList
  | _ => none
theorem gl_eqAgg {n : Bool} {t t' : TypeId} {x y : Operand} {cx cy : Array Value} {b : Bool} (ho : (opAt ops k).op = .binOp (bif n then .neq else .eql) t x y t') (h : readyKV ops k N K = true)
    (hx : kvOp K x = some (.agg cx)) (hy : kvOp K y = some (.agg cy)) (hb : eqAgg P t cx cy = some b)
    (kk : GLk P ops (k + 1) N (kvPut K (opAt ops k).dst (.bool (bif n then !b else b))) I L T) : GLk P ops k N K I L T := by
  refine gl_step h (fun tm ht W hW => ?_) kk
  unfold eqAgg at hb
  split at hb <;> try (cases hb; done)
  rename_i fs hu
  cases hs : (P.stoodInHeld t || P.eqGuardType P.depth t) with
  | true => rw [hs] at hb; cases hb
  | false =>
    rw [hs] at hb
    simp only [cond_false] at hb
    simp only [Bool.or_eq_false_iff] at hs
    have hf : P.fieldsOf t = fs := by simp [Program.fieldsOf, hu]
    have h1 : (Op.equalIn 10000 t (.agg cx) (.agg cy)).run P W = .ok b W := by
      rw [run_equalIn_struct W 9999 t cx cy (by rw [hf]; exact hu) hs.1, hf]
      exact eqFieldsV_run 9998 W _ _ hb
    have h2 : ∀ op, (eqGuard op t x y (.agg cx) (.agg cy)).run P W = .ok () W := fun op => run_eqGuard_agg W op t x y cx cy hs.2
    cases n
    · simp only [cond_false] at ho ⊢
      simp only [execOp, ho, ht.op hx, ht.op hy, Sem.run_bind, h2, Result.andThen_ok, run_eql_struct, h1, Sem.run_pure]
    · simp only [cond_true] at ho ⊢
      simp only [execOp, ho, ht.op hx, ht.op hy, Sem.run_bind, h2, Result.andThen_ok, run_neq_struct, h1, Sem.run_pure]

/-! ### 3. Labels and scopes -/
/-! ### 4. An empty slice that is made -/
theorem OwnS.empty {α : Type} (d : Kd α) (e : TypeId) (I : Imm) (g : Nat) : OwnS d e I (some ⟨g, 0, none⟩) 0 ([] : List α) [(g, .cells #[] e)] :=
  .inr ⟨g, #[], (0, 0), rfl, rfl, FreeOf.zero _, by simp, by simp, ⟨fun i x h => by simp at h⟩, by simp [maxLen']⟩
/-- A slice that is compared with nil. -/
def isSliceT (P : Program) (t : TypeId) : Bool := match P.underlying t with | some (.slice _) => true | _ => false
end
end Go.GB

/- Arrays that stay: tables. -/
set_option linter.unusedVariables false
set_option linter.unusedSimpArgs false
namespace Go.GB
def arrElem (P : Program) (T : TypeId) : Option (Nat × TypeId × Nat) :=
  match P.underlying T with
  | some (.array n e) => match P.info? e with
    | some i => some (n, e, i.size)
    | none => none
  | _ => none
section
variable {P : Program} {ops : Array Oper} {k N : Nat} {K : KV} {I : Imm} {L : Own} {T : TPost}
theorem gl_indexAddrT {n : Nat} {T' e : TypeId} {xs xi : Operand} {a p : Addr} {len : Nat} {kd : IntKind} {i : Int} (hA : ∃ a', some a = some a' ∧ p = a'.add (i.toNat * n)) (h0 : 0 ≤ i) (h1 : i < (len : Int))
    (ho : (opAt ops k).op = .indexAddr T' xs xi) (h : readyKV ops k N K = true) (hs : kvOp K xs = some (.pointer (some a))) (hi : kvOp K xi = some (.int kd i)) (hu : arrElem P T' = some (len, e, n))
    (kk : GLk P ops (k + 1) N (kvPut K (opAt ops k).dst (.pointer (some p))) I L T) : GLk P ops k N K I L T := by
  obtain ⟨a', ha, rfl⟩ := hA
  cases ha
  unfold arrElem at hu
  split at hu <;> try (cases hu; done)
  rename_i n' e' hu1
  split at hu <;> try (cases hu; done)
  rename_i i' hi'
  simp only [Option.some.injEq, Prod.mk.injEq] at hu
  obtain ⟨rfl, rfl, rfl⟩ := hu
  refine gl_step h (fun t ht W hW => ?_) kk
  simp [execOp, ho, ht.op hs, ht.op hi, Instr.indexAt, asIntOf, run_underlying' hu1, h0, h1, sizeOf, typeInfo, hi', Instr.sureAddr]
end
end Go.GB

/- Elements of owned rows that are stored; results in cells at rest. -/
set_option linter.unusedVariables false
set_option linter.unusedSimpArgs false
namespace Go.GB
def putL : List Value → Nat → List Value → List Value
  | [], _, _ => []
  | c :: cs, o + 1, vs => c :: putL cs o vs
  | c :: cs, 0, [] => c :: cs
  | _ :: cs, 0, v :: vs => v :: putL cs 0 vs
theorem putL_get : ∀ (cs : List Value) (o : Nat) (vs : List Value), o + vs.length ≤ cs.length → ∀ j, (putL cs o vs)[j]? = if o ≤ j ∧ j < o + vs.length then vs[j - o]? else cs[j]?
  | [], o, vs, h, j => by
    have : vs = [] := List.length_eq_zero_iff.1 (by simp only [List.length_nil] at h; omega)
    subst this
    rw [if_neg (by simp)]; rfl
  | c :: cs, o + 1, vs, h, j => by
    simp only [List.length_cons] at h
    cases j with
    | zero => rw [if_neg (by omega)]; rfl
    | succ j =>
      simp only [putL, List.getElem?_cons_succ]
      rw [putL_get cs o vs (by omega) j]
      by_cases hj : o ≤ j ∧ j < o + vs.length
      · rw [if_pos hj, if_pos (by omega), show j + 1 - (o + 1) = j - o from by omega]
      · rw [if_neg hj, if_neg (by omega)]
  | c :: cs, 0, [], h, j => by rw [if_neg (by simp)]; rfl
  | c :: cs, 0, v :: vs, h, j => by
    simp only [List.length_cons] at h
    cases j with
    | zero => rw [if_pos (by simp)]; rfl
    | succ j =>
      simp only [putL, List.getElem?_cons_succ, List.length_cons]
      rw [putL_get cs 0 vs (by omega) j]
      by_cases hj : 0 ≤ j ∧ j < 0 + vs.length
      · rw [if_pos hj, if_pos (by omega)]; simp
      · rw [if_neg hj, if_neg (by omega)]
def lset {α : Type} (xs : List α) (i : Int) (y : α) : List α := xs.set i.toNat y
section
variable {P : Program} {ops : Array Oper} {k N : Nat} {K : KV} {I : Imm} {L : Own} {T : TPost}
theorem addr_add (g i j : Nat) : ((⟨g, 0, none⟩ : Addr).add i).add j = ⟨g, i + j, none⟩ := by
  rw [add_add]; unfold Addr.add; split
  · rename_i h; rw [h]
  · simp
/-- The address of an element of an owned row. -/
theorem gl_indexAddrW {α : Type} {d : Kd α} {T' e e' : TypeId} {xs xi : Operand} {A : Option Addr} {c : Nat} {l : List α} {x : α} {kd : IntKind} {i : Int} {C : Own} (hx : ix l i = some x) (hO : OwnS d e' I A c l C) (hU : Upd L C C L)
    (ho : (opAt ops k).op = .indexAddr T' xs xi) (h : readyKV ops k N K = true) (hs : kvOp K xs = some (.slice A l.length c)) (hi : kvOp K xi = some (.int kd i)) (hu : sliceElem P T' = some (e, d.n))
    (kk : ∀ p cs, d.R I x cs → AtL I L p cs → (∃ g, A = some ⟨g, 0, none⟩ ∧ p = (⟨g, 0, none⟩ : Addr).add (i.toNat * d.n)) → GLk P ops (k + 1) N (kvPut K (opAt ops k).dst (.pointer (some p))) I L T) : GLk P ops k N K I L T := by
  obtain ⟨h0, h1, h2⟩ := ix_some hx
  obtain ⟨hu1, hu2⟩ := sliceElem_spec hu
  rcases hO with ⟨rfl, _, _⟩ | ⟨g, cells, fz, rfl, rfl, _, h4, h5, h6, _⟩
  · simp at h2
  · obtain ⟨cs, hR, hr⟩ := h6.at_ _ x h2
    refine gl_step h (fun t ht W hW => ?_) (kk ((⟨g, 0, none⟩ : Addr).add (i.toNat * d.n)) cs hR (fun W hW j v hj => ?_) ⟨g, rfl, rfl⟩)
    · simp [execOp, ho, ht.op hs, ht.op hi, Instr.indexAt, asIntOf, run_underlying' hu1, h0, h1, hu2]
    · obtain ⟨R, h1', _⟩ := hW.upd hU
      have hg : W.heap[g]? = some (.cells cells e' fz) := h1'.mem (by simp)
      rw [addr_add]
      simp only [World.cell?, hg]
      simpa using hr j v hj
def storeOk (P : Program) (T' : TypeId) (v : Value) : Bool := match aggInfo P T' with
  | some (_, n) => Nat.beq v.cells.size n && v.cells.toList.all Value.oneCell'
  | none => false
/-- A part of an element of an owned row is stored. -/
theorem gl_storeE {α : Type} {d : Kd α} {T' e : TypeId} {xp xv : Operand} {A : Option Addr} {c : Nat} {xs : List α} {x y : α} {i : Int} {off : Nat} {p : Addr} {v : Value} {C : Own} (f : Own → Own)
    (hx : ix xs i = some x) (hO : OwnS d e I A c xs C) (hU : ∀ X, Upd L C X (f X)) (hp : ∃ g, A = some ⟨g, 0, none⟩ ∧ p = (⟨g, 0, none⟩ : Addr).add (i.toNat * d.n))
    (ho : (opAt ops k).op = .store T' xp xv) (h : readyKV ops k N K = true) (hk : kvOp K xp = some (.pointer (some (p.add off)))) (hv : kvOp K xv = some v) (hs : storeOk P T' v = true) (hd : (opAt ops k).dst = none)
    (hy : ∀ cs, d.R I x cs → d.R I y (putL cs off v.cells.toList)) (hn : Nat.ble (off + v.cells.size) d.n = true)
    (kk : ∀ C', OwnS d e I A c (lset xs i y) C' → GLk P ops (k + 1) N K I (f C') T) : GLk P ops k N K I L T := by
  obtain ⟨h0, h1, h2⟩ := ix_some hx
  have hn' := Nat.le_of_ble_eq_true hn
  rcases hO with ⟨rfl, _, _⟩ | ⟨g, cells, fz, rfl, rfl, hf, h4, h5, h6, h7⟩
  · simp at h2
  · obtain ⟨g', hg', rfl⟩ := hp
    cases hg'
    refine gl_gen_skip h fun t ht W hW => ?_
    obtain ⟨R, hR1, hR2⟩ := hW.upd (hU [(g, Obj.cells (putSeg cells (i.toNat * d.n + off) v.cells.toList) e fz)])
    unfold storeOk at hs
    split at hs <;> try (cases hs; done)
    rename_i b n hT
    simp only [Bool.and_eq_true, List.all_eq_true] at hs
    have hsz : v.cells.size = n := Nat.eq_of_beq_eq_true hs.1
    have hlen : i.toNat < xs.length := (List.getElem?_eq_some_iff.1 h2).1
    have hle : i.toNat * d.n + d.n ≤ c * d.n := by rw [← Nat.succ_mul]; exact Nat.mul_le_mul_right _ (by omega)
    have hfit : i.toNat * d.n + off + 0 + v.cells.toList.length ≤ cells.size := by rw [Array.length_toList]; omega
    obtain ⟨W', hs', hg, hne, ho1, ho2, ho3⟩ := store_block (P := P) (g := g) (t := e) (fz := fz) v.cells.toList (i.toNat * d.n + off) 0 cells W (hR1.mem (by simp)) hf hfit hs.2
    refine ⟨I, f [(g, Obj.cells (putSeg cells (i.toNat * d.n + off) v.cells.toList) e fz)], W', ?_, hR2 I W' ?_, ?_⟩
    · rw [addr_add] at hk
      simp [execOp, ho, ht.op hk, ht.op hv, Instr.storeAt, Instr.sureAddr, storeVar, (aggInfo_spec hT).2, hsz, hs']
    · exact Holds.set (A := []) hR1 _ (by simpa using hg) hne ho1 ho2 ho3
    · rw [hd]
      refine kk _ (.inr ⟨g, _, fz, rfl, rfl, by rw [FreeOf, putSeg_size]; exact hf, by rw [lset, List.length_set]; exact h4, by rw [putSeg_size]; exact h5, ⟨fun j z hz => ?_⟩, by rw [lset, List.length_set]; exact h7⟩)
      unfold lset at hz
      rw [List.getElem?_set] at hz
      have hget := putSeg_get v.cells.toList cells (i.toNat * d.n + off) (by omega)
      by_cases hj : i.toNat = j
      · subst hj
        rw [if_pos rfl, if_pos hlen] at hz
        cases hz
        obtain ⟨cs, hR, hr⟩ := h6.at_ _ x h2
        have hcl := d.len hR
        refine ⟨_, hy cs hR, fun q u hq => ?_⟩
        rw [putL_get cs off _ (by rw [Array.length_toList, hcl]; exact hn')] at hq
        rw [hget]
        by_cases hq' : off ≤ q ∧ q < off + v.cells.toList.length
        · rw [if_pos hq'] at hq
          rw [if_pos (by omega), show i.toNat * d.n + q - (i.toNat * d.n + off) = q - off from by omega]; exact hq
        · rw [if_neg hq'] at hq
          rw [if_neg (by omega)]; exact hr q u hq
      · rw [if_neg hj] at hz
        obtain ⟨cs, hR, hr⟩ := h6.at_ _ z hz
        have hcl := d.len hR
        refine ⟨cs, hR, fun q u hq => ?_⟩
        have hq' : q < d.n := by rw [← hcl]; exact (List.getElem?_eq_some_iff.1 hq).1
        rw [hget, if_neg ?_]
        · exact hr q u hq
        · rw [Array.length_toList]
          rintro ⟨ha, hb⟩
          rcases Nat.lt_or_gt_of_ne hj with hlt | hlt
          · have : (i.toNat + 1) * d.n ≤ j * d.n := Nat.mul_le_mul_right _ hlt
            rw [Nat.add_mul, Nat.one_mul] at this; omega
          · have : (j + 1) * d.n ≤ i.toNat * d.n := Nat.mul_le_mul_right _ hlt
            rw [Nat.add_mul, Nat.one_mul] at this; omega
end
end Go.GB

/- What slices.Insert needs: headers, copies, rows that grow by zeros, rows that do not overlap. -/
set_option linter.unusedVariables false
set_option linter.unusedSimpArgs false
namespace Go.GB
theorem wrap64 {x : Int} (h : -9223372036854775808 ≤ x) (h' : x ≤ 9223372036854775807) : IntKind.wrap .i64 x = x := by
  unfold IntKind.wrap
  simp [IntKind.bits, IntKind.signed]
  omega
theorem OwnS.lenc {α : Type} {d : Kd α} {e : TypeId} {I : Imm} {A : Option Addr} {c : Nat} {xs : List α} {C : Own} (h : OwnS d e I A c xs C) : xs.length ≤ c := by
  rcases h with ⟨rfl, rfl, _⟩ | ⟨g, cells, fz, _, _, _, h4, _⟩
  · exact Nat.le_refl _
  · exact h4
section
variable {P : Program} {ops : Array Oper} {k N : Nat} {K : KV} {I : Imm} {L : Own} {T : TPost}
theorem gl_sliceV {T' e n : Nat} {xs : Operand} {lo hi : Option Operand} {A : Option Addr} {len c : Nat} {a b : Int} (h0 : 0 ≤ a) (h1 : a ≤ b) (h2 : b ≤ (c : Int))
    (ho : (opAt ops k).op = .slice T' xs lo hi none) (h : readyKV ops k N K = true) (hs : kvOp K xs = some (.slice A len c)) (hu : sliceElem P T' = some (e, n))
    (hl : kvBound K lo 0 = some a) (hh : kvBound K hi len = some b) {v : Value} (hv : Value.slice (if c = a.toNat then A else A.map (·.add (a.toNat * n))) (b.toNat - a.toNat) (c - a.toNat) = v)
    (kk : GLk P ops (k + 1) N (kvPut K (opAt ops k).dst v) I L T) : GLk P ops k N K I L T := by
  subst hv
  obtain ⟨hu1, hu2⟩ := sliceElem_spec hu
  refine gl_step h (fun t ht W hW => ?_) kk
  have e1 : (a.toNat : Int) = a := by omega
  have e2 : (b.toNat : Int) = b := by omega
  rcases kvBound_spec hl with ⟨rfl, rfl⟩ | ⟨x, kx, rfl, hx'⟩
  · rcases kvBound_spec hh with ⟨rfl, rfl⟩ | ⟨y, ky, rfl, hy⟩
    · simp [execOp, ho, ht.op hs, Instr.sliceAt, Instr.slice, run_underlying' hu1, Instr.sliceBounds, hu2]
    · simp [execOp, ho, ht.op hs, ht.op hy, Instr.sliceAt, Instr.slice, run_underlying' hu1, Instr.sliceBounds, Instr.sliceBound, asIntOf, hu2, show 0 ≤ b by omega, h2]
  · rcases kvBound_spec hh with ⟨rfl, rfl⟩ | ⟨y, ky, rfl, hy⟩
    · simp [execOp, ho, ht.op hs, ht.op hx', Instr.sliceAt, Instr.slice, run_underlying' hu1, Instr.sliceBounds, Instr.sliceBound, asIntOf, hu2, h0, h1]
    · simp [execOp, ho, ht.op hs, ht.op hx', ht.op hy, Instr.sliceAt, Instr.slice, run_underlying' hu1, Instr.sliceBounds, Instr.sliceBound, asIntOf, hu2, show 0 ≤ b by omega, h2, e2, h0, h1]
end
end Go.GB

/- Strings put together; division. -/
set_option linter.unusedVariables false
set_option linter.unusedSimpArgs false
namespace Go.GB
def sadd (x y : ByteArray) : Option ByteArray := if x.size + y.size ≤ 9223372036854775807 then some (x ++ y) else none
section
variable {P : Program} {ops : Array Oper} {k N : Nat} {K : KV} {I : Imm} {L : Own} {T : TPost}
theorem gl_sadd {t t' : TypeId} {x y : Operand} {a b r : ByteArray} (hr : sadd a b = some r) (ho : (opAt ops k).op = .binOp .add t x y t') (h : readyKV ops k N K = true)
    (hx : kvOp K x = some (.string a)) (hy : kvOp K y = some (.string b))
    (kk : GLk P ops (k + 1) N (kvPut K (opAt ops k).dst (.string r)) I L T) : GLk P ops k N K I L T := by
  unfold sadd at hr
  split at hr <;> try (cases hr; done)
  rename_i hle
  simp only [Option.some.injEq] at hr
  subst hr
  refine gl_step h (fun tm ht W hW => ?_) kk
  have h1 : ¬ (((a.size + b.size : Nat) : Int) > IntKind.i64.max) := by
    have : IntKind.i64.max = 9223372036854775807 := by decide
    rw [this]; omega
  have h3 : (binOp .add t (.string a) (.string b)).run P W = .ok (.string (a ++ b)) W := by
    show (Op.stringOp .add a b).run P W = _
    unfold Op.stringOp
    simp only [h1, if_false, Sem.run_pure]
  have h2 : (eqGuard .add t x y (.string a) (.string b)).run P W = .ok () W := by simp [eqGuard]
  simp only [execOp, ho, ht.op hx, ht.op hy, Sem.run_bind, h2, h3, Result.andThen_ok, Sem.run_pure]
end
end Go.GB

/- Rows that are made; copies into rows; the head of a row. -/
set_option linter.unusedVariables false
set_option linter.unusedSimpArgs false
namespace Go.GB
def mkrow {α : Type} (z : α) (n c : Int) : Option (List α) := if 0 ≤ n ∧ n ≤ c ∧ c ≤ 2147483648 then some (List.replicate n.toNat z) else none
theorem mkrow_some {α : Type} {z : α} {n c : Int} {xs : List α} (h : mkrow z n c = some xs) : 0 ≤ n ∧ n ≤ c ∧ c ≤ 2147483648 ∧ xs = List.replicate n.toNat z := by
  unfold mkrow at h
  split at h
  · rename_i hc; cases h; exact ⟨hc.1, hc.2.1, hc.2.2, rfl⟩
  · cases h
def lcopy {α : Type} (xs ys : List α) : List α := ys.take xs.length ++ xs.drop ys.length
theorem lcopy_length {α : Type} (xs ys : List α) : (lcopy xs ys).length = xs.length := by simp [lcopy]; omega
section
variable {P : Program} {ops : Array Oper} {k N : Nat} {K : KV} {I : Imm} {L : Own} {T : TPost}
theorem gl_makeSlice {α : Type} {d : Kd α} {T' e : TypeId} {lx cx : Operand} {n c : Int} {kl kc : IntKind} {z : α} {zc : Array Value} {xs : List α} (hx : mkrow z n c = some xs)
    (ho : (opAt ops k).op = .makeSlice T' lx cx) (h : readyKV ops k N K = true) (hl : kvOp K lx = some (.int kl n)) (hc : kvOp K cx = some (.int kc c)) (he : sliceElem P T' = some (e, d.n)) (hinfo : elemInfo P e d.n = true)
    (hz : zeroCells' P e = some zc) (hR : d.R I z zc.toList)
    (kk : ∀ A C, OwnS d e I A c.toNat xs C → GLk P ops (k + 1) N (kvPut K (opAt ops k).dst (.slice A xs.length c.toNat)) I (C ++ L) T) : GLk P ops k N K I L T := by
  obtain ⟨h0, h1, h2, rfl⟩ := mkrow_some hx
  obtain ⟨hu1, hu2⟩ := sliceElem_spec he
  obtain ⟨ti, zv, hti, hzv, hsz, hzs, hby, hb0, hn0⟩ := elemInfo_spec hinfo
  have hzc : zv.cells = zc := by
    unfold zeroCells' at hz
    rw [hti] at hz
    simp only [hzv, Option.some.injEq] at hz
    exact hz
  refine gl_gen h fun t ht W hW => ?_
  have hbytes : (ti.bytes : Int) * c ≤ 281474976710656 := by
    have : ti.bytes * c.toNat ≤ 8192 * 2147483648 := Nat.mul_le_mul hby (by omega)
    have h3 : ((ti.bytes * c.toNat : Nat) : Int) = (ti.bytes : Int) * c := by rw [Int.natCast_mul]; congr 1; omega
    omega
  have hr := run_make (P := P) W T' e ti zv hu1 hti hzv kl kc n c h0 h1 hbytes (by omega)
  rw [hsz, hzc] at hr
  refine ⟨_, I, [(W.heap.size, Obj.cells (madeCells zc (c.toNat * d.n)) e)] ++ L, _, ?_, hW.new (.cells (madeCells zc (c.toNat * d.n)) e), kk (some ⟨W.heap.size, 0, none⟩) _ (.inr ⟨W.heap.size, _, (0, 0), rfl, rfl, FreeOf.zero _, by rw [List.length_replicate]; omega, size_madeCells _ _, ⟨fun i x hi => ?_⟩, by rw [List.length_replicate]; unfold maxLen'; omega⟩)⟩
  · simp only [execOp, ho, ht.op hl, ht.op hc, hr, Sem.run_bind, Result.andThen_ok, Sem.run_pure, List.length_replicate]; rfl
  · rw [List.getElem?_replicate] at hi
    split at hi <;> try (cases hi; done)
    rename_i hlt
    cases hi
    refine ⟨zc.toList, hR, fun j v hj => ?_⟩
    have hzl : zc.size = d.n := by rw [← hzc]; exact hzs
    have hj' : j < d.n := by have := (List.getElem?_eq_some_iff.1 hj).1; rw [Array.length_toList] at this; omega
    have hb : i * d.n + j < c.toNat * d.n := by
      have : (i + 1) * d.n ≤ c.toNat * d.n := Nat.mul_le_mul_right _ (by omega)
      rw [Nat.add_mul, Nat.one_mul] at this; omega
    have hm : (i * d.n + j) % zc.size = j := by rw [hzl, Nat.mul_comm i, Nat.mul_add_mod]; exact Nat.mod_eq_of_lt hj'
    simp only [madeCells, Array.getElem?_map, Array.getElem?_range, hb, if_true, Option.map_some, hm]
    rw [Array.getElem?_toList] at hj
    rw [getElem!_def, hj]
theorem row_copy {α : Type} {d : Kd α} {I : Imm} {xs ys : List α} {cells : Array Value} {l : List Value} (hx : RowAt d I xs (fun j => cells[j]?)) (hy : RowAt d I ys (fun j => l[j]?)) (hl : l.length = ys.length * d.n) (hc : xs.length * d.n ≤ cells.size) :
    RowAt d I (lcopy xs ys) (fun j => (putSeg cells 0 (l.take (min ys.length xs.length * d.n)))[j]?) := by
  have hml : (l.take (min ys.length xs.length * d.n)).length = min ys.length xs.length * d.n := by
    rw [List.length_take, hl]
    have := Nat.mul_le_mul_right d.n (Nat.min_le_left ys.length xs.length)
    omega
  have hmc : min ys.length xs.length * d.n ≤ cells.size := Nat.le_trans (Nat.mul_le_mul_right d.n (Nat.min_le_right ys.length xs.length)) hc
  have hget := putSeg_get (l.take (min ys.length xs.length * d.n)) cells 0 (by rw [hml]; omega)
  refine ⟨fun i x hi => ?_⟩
  unfold lcopy at hi
  by_cases h : i < min ys.length xs.length
  · rw [List.getElem?_append_left (by rw [List.length_take]; omega), List.getElem?_take, if_pos (by omega)] at hi
    obtain ⟨q, hq, hr⟩ := hy.at_ i x hi
    refine ⟨q, hq, fun j v hj => ?_⟩
    have hj' : j < d.n := by rw [← d.len hq]; exact (List.getElem?_eq_some_iff.1 hj).1
    have : (i + 1) * d.n ≤ min ys.length xs.length * d.n := Nat.mul_le_mul_right _ h
    rw [Nat.add_mul, Nat.one_mul] at this
    simp only [hget]
    rw [if_pos (by rw [hml]; omega), Nat.sub_zero, List.getElem?_take, if_pos (by omega)]
    exact hr j v hj
  · have hi2 : (xs.drop ys.length)[i - (ys.take xs.length).length]? = some x := by
      rw [List.getElem?_append_right (by rw [List.length_take]; omega)] at hi; exact hi
    rw [List.getElem?_drop] at hi2
    have hlt := (List.getElem?_eq_some_iff.1 hi2).1
    rw [List.length_take] at hi2 hlt
    have hi3 : xs[i]? = some x := by rw [show i = ys.length + (i - min xs.length ys.length) from by omega]; exact hi2
    obtain ⟨q, hq, hr⟩ := hx.at_ i x hi3
    refine ⟨q, hq, fun j v hj => ?_⟩
    have : min ys.length xs.length * d.n ≤ i * d.n := Nat.mul_le_mul_right _ (by omega)
    simp only [hget]
    rw [if_neg (by rw [hml]; omega)]
    exact hr j v hj
/-- A copy into a row of the call's own. -/
theorem gl_copyW {α : Type} {d : Kd α} {tD tS e e' : TypeId} {A A2 : Option Addr} {c c2 : Nat} {xs ys : List α} {dx sx : Operand} {C : Own} (f : Own → Own)
    (ho : (opAt ops k).op = .call { callee := .builtin .copy, args := #[dx, sx], argTypes := #[tD, tS] }) (h : readyKV ops k N K = true)
    (hd : kvOp K dx = some (.slice A xs.length c)) (hs : kvOp K sx = some (.slice A2 ys.length c2)) (he : sliceElem P tD = some (e, d.n)) (hO : OwnS d e' I A c xs C) (hU : ∀ X, Upd L C X (f X)) (hsrc : RdS d I L A2 ys)
    (kk : ∀ C', OwnS d e' I A c (lcopy xs ys) C' → GLk P ops (k + 1) N (kvPut K (opAt ops k).dst (.int .i64 ((min ys.length xs.length : Nat) : Int))) I (f C') T) : GLk P ops k N K I L T := by
  obtain ⟨hu1, hu2⟩ := sliceElem_spec he
  refine gl_gen h fun t ht W hW => ?_
  obtain ⟨l, hl, hrow, hone, hcell⟩ := hsrc.rd W hW
  have hm : Nat.min ys.length xs.length = min ys.length xs.length := rfl
  have hml : (l.take (min ys.length xs.length * d.n)).length = min ys.length xs.length * d.n := by
    rw [List.length_take, hl]
    have := Nat.mul_le_mul_right d.n (Nat.min_le_left ys.length xs.length)
    omega
  have hfc : (Builtin.firstCells d.n (min ys.length xs.length) (.slice A2 ys.length c2)).run P W = .ok (l.take (min ys.length xs.length * d.n)).toArray W := by
    by_cases hy : ys = []
    · subst hy
      cases A2 <;> simp [Builtin.firstCells, loadCells, loadCellsFrom]
    · obtain ⟨a, rfl, ha⟩ := hcell hy
      refine run_firstCells_some W d.n _ a ys.length c2 _ hml (fun j v hj => ?_)
      rw [List.getElem?_take] at hj
      split at hj
      · exact ha j v hj
      · cases hj
  rcases hO with ⟨rfl, rfl, rfl, hA⟩ | ⟨g, cells, fz, rfl, rfl, hfz, hc1, hc2, hrx, hmx⟩
  · obtain ⟨R, hR1, hR2⟩ := hW.upd (hU [])
    refine ⟨_, I, f [], W, ?_, hR2 I W (by simpa using hR1), kk [] (.inl ⟨by simp [lcopy], rfl, rfl, hA⟩)⟩
    have hcopy : (Builtin.copy_ #[tD, tS] (opAt ops k).type #[.slice A ([] : List α).length 0, .slice A2 ys.length c2]).run P W = .ok (.int .i64 ((min ys.length ([] : List α).length : Nat) : Int)) W := by
      cases A <;> simp [Builtin.copy_, run_underlying' hu1, Builtin.lenOf, hu2, storeCells, goInt] <;> simp at hfc <;> simp [hfc, storeCells]
    simp only [execOp, ho, resolve, invoke, builtin, Sem.run_bind, Sem.run_pure, Result.andThen_ok, List.map_toArray, List.map_cons, List.map_nil, ht.op hd, ht.op hs, hcopy]
  · have hxc : xs.length * d.n ≤ cells.size := by rw [hc2]; exact Nat.mul_le_mul_right _ hc1
    have hmc : min ys.length xs.length * d.n ≤ cells.size := Nat.le_trans (Nat.mul_le_mul_right d.n (Nat.min_le_right ys.length xs.length)) hxc
    obtain ⟨R, hR1, hR2⟩ := hW.upd (hU [(g, .cells (putSeg cells 0 (l.take (min ys.length xs.length * d.n))) e' fz)])
    obtain ⟨W', hs', hg, hne, ho1, ho2, ho3⟩ := store_block (P := P) (g := g) (t := e') (fz := fz) (l.take (min ys.length xs.length * d.n)) 0 0 cells W (hR1.mem (by simp)) hfz (by rw [hml]; omega) (fun v hv => hone v (List.mem_of_mem_take hv))
    refine ⟨_, I, _, W', ?_, hR2 I W' (Holds.set (A := []) hR1 _ (by simpa using hg) hne ho1 ho2 ho3), kk _ (.inr ⟨g, _, fz, rfl, rfl, by rw [FreeOf, putSeg_size]; exact hfz, by rw [lcopy_length]; exact hc1, by rw [putSeg_size]; exact hc2, row_copy hrx hrow hl hxc, by rw [lcopy_length]; exact hmx⟩)⟩
    have hcopy : (Builtin.copy_ #[tD, tS] (opAt ops k).type #[.slice (some ⟨g, 0, none⟩) xs.length c, .slice A2 ys.length c2]).run P W = .ok (.int .i64 ((min ys.length xs.length : Nat) : Int)) W' := by
      simp [Builtin.copy_, run_underlying' hu1, Builtin.lenOf, hm, hu2, hfc, hs', goInt]
    simp only [execOp, ho, resolve, invoke, builtin, Sem.run_bind, Sem.run_pure, Result.andThen_ok, List.map_toArray, List.map_cons, List.map_nil, ht.op hd, ht.op hs, hcopy]
theorem RowAt.take {α : Type} {d : Kd α} {I : Imm} {xs : List α} {cs : Nat → Option Value} (h : RowAt d I xs cs) (r : Nat) : RowAt d I (xs.take r) cs := ⟨fun i x hi => by
  rw [List.getElem?_take] at hi
  split at hi
  · exact h.at_ i x hi
  · cases hi⟩
/-- The head of a row. -/
theorem OwnS.take {α : Type} {d : Kd α} {e : TypeId} {A : Option Addr} {c : Nat} {xs : List α} {C : Own} (h : OwnS d e I A c xs C) (r : Nat) : OwnS d e I A c (xs.take r) C := by
  rcases h with ⟨rfl, rfl, rfl, rfl⟩ | ⟨g, cells, fz, rfl, rfl, h3, h4, h5, h6, h7⟩
  · exact .inl ⟨by simp, rfl, rfl, rfl⟩
  · exact .inr ⟨g, cells, fz, rfl, rfl, h3, by rw [List.length_take]; omega, h5, h6.take r, by rw [List.length_take]; omega⟩
theorem RepS.take {α : Type} {d : Kd α} {A : Option Addr} {c : Nat} {xs : List α} (h : RepS d I A c xs) (r : Nat) : RepS d I A c (xs.take r) := ⟨by have := h.le; rw [List.length_take]; omega, by have := h.max; rw [List.length_take]; omega, fun i x hi => by
  rw [List.getElem?_take] at hi
  split at hi
  · exact h.at_ i x hi
  · cases hi⟩
end
end Go.GB

/- Shifts and divisions by what is not known ahead. -/
set_option linter.unusedVariables false
set_option linter.unusedSimpArgs false
namespace Go.GB
section
variable {P : Program} {ops : Array Oper} {k N : Nat} {K : KV} {I : Imm} {L : Own} {T : TPost}
end
end Go.GB

/- Arrays that are compared. -/
set_option linter.unusedVariables false
set_option linter.unusedSimpArgs false
namespace Go.GB
section
variable {P : Program} {ops : Array Oper} {k N : Nat} {K : KV} {I : Imm} {L : Own} {T : TPost}
end
end Go.GB

/- The kit's contracts, brought to the form of the walks. -/
set_option linter.unusedVariables false
set_option linter.unusedSimpArgs false
namespace Go.GB
open Go.RowKit
/-- A call that only lays new blocks: what is known stays. -/
theorem Holds.below {I : Imm} {L : Own} {W W' : World} (h : Holds I L W) (hb : Below W.heap.size W W') (hd : I.dr ≤ W'.drawn) : Holds I L W' :=
  ⟨fun b o hI => by have := h.imm b o hI; rw [hb.block b (lt_of_heap this)]; exact this, fun p hp => by have := h.own p hp; rw [hb.block p.1 (lt_of_heap this)]; exact this, h.nd, h.dj,
    by rw [hb.os, h.os], by rw [hb.tape, h.tape], by rw [hb.output, h.out], hd⟩
theorem callsTo_below {P : Program} {f : FuncId} {args : Array Value} {I : Imm} {L : Own} {v : Value} (h0 : I.dr = 0) (h : ∀ W, Holds I L W → Calls P f args W fun e W' => e = .returned v ∧ Below W.heap.size W W') :
    CallsTo P f args I L (fun v' I' L' => v' = v ∧ L = L') := fun W hW =>
  (h W hW).mono fun e W' ⟨he, hb⟩ => ⟨v, I, L, he, Imm.refl I, hW.below hb (by rw [h0]; exact Nat.zero_le _), rfl, rfl⟩
end Go.GB

/- How data that are read are bounded. -/
set_option linter.unusedVariables false
set_option linter.unusedSimpArgs false
namespace Go.GB
def wStr (s : ByteArray) (n : Nat) : Prop := s.size + 1 ≤ n
def wSl {α : Type} (w : α → Nat → Prop) : List α → Nat → Prop
  | [], _ => True
  | x :: r, n => ∃ a b, w x a ∧ wSl w r b ∧ a + b ≤ n ∧ 1 ≤ a
theorem wSl.len {α : Type} {w : α → Nat → Prop} : ∀ {l : List α} {n : Nat}, wSl w l n → l.length ≤ n
  | [], n, _ => Nat.zero_le _
  | x :: r, n, ⟨a, b, _, h, hab, ha⟩ => by have := wSl.len h; simp; omega
theorem wSl.mem {α : Type} {w : α → Nat → Prop} {x : α} : ∀ {l : List α} {n : Nat}, wSl w l n → x ∈ l → ∃ a, w x a ∧ a ≤ n
  | [], _, _, h => by cases h
  | y :: r, n, ⟨a, b, hw, h, hab, _⟩, hx => by
    rcases List.mem_cons.1 hx with rfl | hx
    · exact ⟨a, hw, by omega⟩
    · obtain ⟨c, h1, h2⟩ := wSl.mem h hx
      exact ⟨c, h1, by omega⟩
theorem wSl.le {α : Type} {w : α → Nat → Prop} : ∀ {l : List α} {n m : Nat}, wSl w l n → n ≤ m → wSl w l m
  | [], _, _, _, _ => trivial
  | x :: r, n, m, ⟨a, b, h1, h2, h3, h4⟩, hm => ⟨a, b, h1, h2, by omega, h4⟩
end Go.GB

/- slices.SortFunc by the kit's contract, at an order that parts whatever two are not one. -/
set_option linter.unusedVariables false
set_option linter.unusedSimpArgs false
namespace Go.GB
open Go.RowKit
/-! ### What it makes of a list -/
structure SortOk {α : Type} (Q : α → Prop) (cmp : α → α → Option Int) (k : α → α → Int) : Prop where
  eq : ∀ x y, Q x → Q y → cmp x y = some (k x y)
  swo : Go.Sort.SWO (fun x y => decide (k x y < 0))
  anti : ∀ x y, ¬ k x y < 0 → ¬ k y x < 0 → x = y
def SortR {α : Type} (Q : α → Prop) (cmp : α → α → Option Int) (xs r : List α) : Prop := (∀ x ∈ xs, Q x) ∧ ∃ k, SortOk Q cmp k ∧ r.Perm xs ∧ r.Pairwise (fun x y => ¬ k y x < 0)
theorem SortR.unique {α : Type} {Q : α → Prop} {cmp : α → α → Option Int} {xs r r' : List α} (h : SortR Q cmp xs r) (h' : SortR Q cmp xs r') : r = r' := by
  obtain ⟨hq, k, hk, hp, hs⟩ := h
  obtain ⟨_, k', hk', hp', hs'⟩ := h'
  have e : ∀ x y, x ∈ xs → y ∈ xs → k x y = k' x y := fun x y hx hy => by
    have := hk.eq x y (hq x hx) (hq y hy)
    rw [hk'.eq x y (hq x hx) (hq y hy)] at this
    exact (Option.some.inj this).symm
  refine List.Perm.eq_of_pairwise (le := fun x y => ¬ k y x < 0) ?_ hs ?_ (hp.trans hp'.symm)
  · intro a b _ _ h1 h2; exact hk.anti a b h2 h1
  · refine hs'.imp_of_mem fun {a b} ha hb hab => ?_
    rw [e b a (hp'.mem_iff.1 hb) (hp'.mem_iff.1 ha)]; exact hab
/-! ### A world as it is, read -/
theorem Holds.grow {I : Imm} {L : Own} {W : World} (h : Holds I L W) (os : Array Obj) : Holds I L (Go.Sort.grow W os) := by
  have e : ∀ (b : Nat) (o : Obj), W.heap[b]? = some o → (Go.Sort.grow W os).heap[b]? = some o := fun b o hb => by
    show (W.heap ++ os)[b]? = _
    rw [Array.getElem?_append, if_pos (lt_of_heap hb)]; exact hb
  exact ⟨fun b o hI => e b o (h.imm b o hI), fun p hp => e p.1 p.2 (h.own p hp), h.nd, h.dj, h.os, h.tape, h.out, h.dr⟩
/-! ### A row of one cell each, with its cells -/
end Go.GB

/- Rows of the call's own: read while order is drawn; their tails; clear. -/
set_option linter.unusedVariables false
set_option linter.unusedSimpArgs false
namespace Go.GB
open Go.RowKit
theorem OwnS.ixAt {α : Type} {d : Kd α} {e : TypeId} {I : Imm} {A : Option Addr} {c : Nat} {l : List α} {x : α} {i : Int} {C : Own} (hx : ix l i = some x) (hO : OwnS d e I A c l C) :
    ∃ p cs, d.R I x cs ∧ (∀ I' L', (∀ q ∈ C, q ∈ L') → AtL I' L' p cs) ∧ ∃ a, A = some a ∧ p = a.add (i.toNat * d.n) := by
  obtain ⟨h0, h1, h2⟩ := ix_some hx
  rcases hO with ⟨rfl, _, _⟩ | ⟨g, cells, fz, rfl, rfl, _, h4, h5, h6, _⟩
  · simp at h2
  · obtain ⟨cs, hR, hr⟩ := h6.at_ _ x h2
    refine ⟨_, cs, hR, fun I' L' hC W hW j v hj => ?_, _, rfl, rfl⟩
    have hg : W.heap[g]? = some (.cells cells e fz) := hW.own (g, .cells cells e fz) (hC _ (by simp))
    rw [addr_add]
    simp only [World.cell?, hg]
    simpa using hr j v hj
/-- A' is where the tail from k on of a slice at A lies, m elements of it. -/
def ViewS (n : Nat) (A A' : Option Addr) (k : Int) (m : Nat) : Prop := 0 ≤ k ∧ ∀ i : Int, 0 ≤ i → i < (m : Int) → ∃ a, A = some a ∧ ∃ a', A' = some a' ∧ a' = a.add (k.toNat * n)
def viewA (A : Option Addr) (b : Int) (n c : Nat) : Option Addr := if c = b.toNat then A else A.map (·.add (b.toNat * n))
theorem lx_take {α : Type} {l l' : List α} {b : Int} (hx : lx l 0 b = some l') : l' = l.take b.toNat := by
  unfold lx at hx
  split at hx <;> try (cases hx; done)
  simpa using hx.symm
theorem OwnS.view {α : Type} {d : Kd α} {e : TypeId} {I : Imm} {A : Option Addr} {c : Nat} {l l' : List α} {b : Int} {C : Own} (hx : lx l b (l.length : Int) = some l') (hO : OwnS d e I A c l C) : ViewS d.n A (viewA A b d.n c) b l'.length := by
  unfold lx at hx
  split at hx <;> try (cases hx; done)
  rename_i hb
  obtain ⟨h0, h1, h2⟩ := hb
  simp only [Option.some.injEq] at hx
  have hlc := hO.lenc
  have hlen : l'.length = l.length - b.toNat := by rw [← hx, List.length_drop, List.length_take]; omega
  refine ⟨h0, fun i hi0 hi1 => ?_⟩
  unfold viewA
  rw [if_neg (by omega)]
  rcases hO with ⟨rfl, _, _⟩ | ⟨g, cells, fz, rfl, rfl, _, h4, h5, h6, _⟩
  · have h3 : l'.length = 0 := by rw [hlen]; simp
    omega
  · exact ⟨_, rfl, _, rfl, rfl⟩
theorem OwnS.head {α : Type} {d : Kd α} {e : TypeId} {I : Imm} {A : Option Addr} {c : Nat} {l l' : List α} {n : Nat} {C : Own} (hd : l' = l.take n) (h : OwnS d e I A c l C) : OwnS d e I A c l' C := by rw [hd]; exact h.take n
theorem RepS.head {α : Type} {d : Kd α} {I : Imm} {A : Option Addr} {c : Nat} {l l' : List α} {n : Nat} (hd : l' = l.take n) (h : RepS d I A c l) : RepS d I A c l' := by rw [hd]; exact h.take n
section
variable {P : Program} {ops : Array Oper} {k N : Nat} {K : KV} {I : Imm} {L : Own} {T : TPost}
/-- The head of an owned row, as a slice. -/
theorem gl_sliceH {n : Nat} {α : Type} {T' e : TypeId} {xs : Operand} {lo hi : Option Operand} {A : Option Addr} {c : Nat} {l l' : List α} {b : Int} (hx : lx l 0 b = some l') (hlc : l.length ≤ c)
    (ho : (opAt ops k).op = .slice T' xs lo hi none) (h : readyKV ops k N K = true) (hs : kvOp K xs = some (.slice A l.length c)) (hu : sliceElem P T' = some (e, n))
    (hl : kvBound K lo 0 = some 0) (hh : kvBound K hi l.length = some b)
    (kk : GLk P ops (k + 1) N (kvPut K (opAt ops k).dst (.slice A l'.length c)) I L T) : GLk P ops k N K I L T := by
  unfold lx at hx
  split at hx <;> try (cases hx; done)
  rename_i hb
  obtain ⟨_, h1, h2⟩ := hb
  simp only [Option.some.injEq, Int.toNat_zero, List.drop_zero] at hx
  have hlen : l'.length = b.toNat := by rw [← hx, List.length_take]; omega
  refine gl_sliceV (n := n) (a := 0) (b := b) (by omega) h1 (by omega) ho h hs hu hl hh (v := .slice A l'.length c) ?_ kk
  by_cases hc : c = 0
  · rw [hc] at hlc ⊢
    simp [hlen]
  · simp [hc, hlen]
    cases A with
    | none => rfl
    | some a => simp [add_zero']
/-- The tail of an owned row. -/
theorem gl_sliceT {n : Nat} {α : Type} {T' e : TypeId} {xs : Operand} {lo : Option Operand} {A : Option Addr} {c : Nat} {l l' : List α} {b : Int} (hx : lx l b (l.length : Int) = some l') (hlc : l.length ≤ c)
    (ho : (opAt ops k).op = .slice T' xs lo none none) (h : readyKV ops k N K = true) (hs : kvOp K xs = some (.slice A l.length c)) (hu : sliceElem P T' = some (e, n))
    (hl : kvBound K lo 0 = some b)
    (kk : GLk P ops (k + 1) N (kvPut K (opAt ops k).dst (.slice (viewA A b n c) l'.length (c - b.toNat))) I L T) : GLk P ops k N K I L T := by
  unfold lx at hx
  split at hx <;> try (cases hx; done)
  rename_i hb
  obtain ⟨h0, h1, h2⟩ := hb
  simp only [Option.some.injEq] at hx
  have hlen : l'.length = l.length - b.toNat := by rw [← hx, List.length_drop, List.length_take]; omega
  exact gl_sliceV (n := n) (a := b) (b := (l.length : Int)) h0 h1 (by omega) ho h hs hu hl rfl (v := .slice (viewA A b n c) l'.length (c - b.toNat)) (by rw [hlen]; simp [viewA]) kk
end
end Go.GB

/- Strings gone through rune by rune; heads of rows; what a builder holds. -/
set_option linter.unusedVariables false
set_option linter.unusedSimpArgs false
namespace Go.GB
open Go.RowKit
section
variable {P : Program} {ops : Array Oper} {k N : Nat} {K : KV} {I : Imm} {L : Own} {T : TPost}
end
/-- What a strings.Builder at block g holds: its bytes xs; B: its blocks. -/
def BldS (T e : TypeId) (I : Imm) (g : Nat) (xs : List Int) (B : Own) : Prop :=
  ∃ p A c C, (p = none ∨ p = some (⟨g, 0, none⟩ : Addr)) ∧ OwnS (Kd.int .u8) e I A c xs C ∧ B = (g, .cells #[.pointer p, .slice A xs.length c] T) :: C
theorem BldS.mono {T e : TypeId} {I J : Imm} {g : Nat} {xs : List Int} {B : Own} (h : BldS T e I g xs B) (hI : I ≤ J) : BldS T e J g xs B := by
  obtain ⟨p, A, c, C, h1, h2, h3⟩ := h
  exact ⟨p, A, c, C, h1, h2.mono hI, h3⟩
theorem BldS.new (T e : TypeId) (I : Imm) (g : Nat) : BldS T e I g [] [(g, .cells #[.pointer none, .slice none 0 0] T)] :=
  ⟨none, none, 0, [], .inl rfl, OwnS.nil _ _ _ _, rfl⟩
end Go.GB

/- Decimal numerals, by a number of rounds. -/
set_option linter.unusedVariables false
set_option linter.unusedSimpArgs false
namespace Go.GB
/-! ### Labels that are gone to from nowhere -/
section
variable {P : Program} {c : Code} {N : Nat} {K : KV} {I : Imm} {L : Own} {Q : Post}
end
end Go.GB

/- Heads of rows of which more is known than they show; elements of owned rows that are stored to late; functions that call themselves. -/
set_option linter.unusedVariables false
set_option linter.unusedSimpArgs false
namespace Go.GB
open Go.RowKit
section
variable {P : Program} {ops : Array Oper} {k N : Nat} {K : KV} {I : Imm} {L : Own} {T : TPost}
/-- A part of a slice, of which more is known than its length shows. -/
theorem gl_sliceRF {α : Type} {d : Kd α} {T' e : TypeId} {xs : Operand} {lo hi : Option Operand} {A : Option Addr} {c m : Nat} {l l' : List α} {a b : Int} (hx : lx l a b = some l') (hr : RepS d I A c l)
    (ho : (opAt ops k).op = .slice T' xs lo hi none) (h : readyKV ops k N K = true) (hs : kvOp K xs = some (.slice A m c)) (hu : sliceElem P T' = some (e, d.n))
    (hl : kvBound K lo 0 = some a) (hh : kvBound K hi m = some b)
    (kk : ∀ A' c', RepS d I A' c' l' → GLk P ops (k + 1) N (kvPut K (opAt ops k).dst (.slice A' l'.length c')) I L T) : GLk P ops k N K I L T := by
  unfold lx at hx
  split at hx <;> try (cases hx; done)
  rename_i hb
  obtain ⟨h0, h1, h2⟩ := hb
  simp only [Option.some.injEq] at hx
  obtain ⟨hu1, hu2⟩ := sliceElem_spec hu
  have hle := hr.le
  have hlen : l'.length = b.toNat - a.toNat := by rw [← hx]; simp; omega
  have hrep : RepS d I (if c = a.toNat then A else A.map (·.add (a.toNat * d.n))) (c - a.toNat) l' := by
    refine ⟨by omega, by have := hr.max; omega, fun i x hi => ?_⟩
    rw [← hx, List.getElem?_drop, List.getElem?_take] at hi
    split at hi
    · obtain ⟨p, cs, hA, hR, hrun⟩ := hr.at_ _ x hi
      have : ¬ c = a.toNat := by omega
      refine ⟨p.add (a.toNat * d.n), cs, by rw [if_neg this, hA]; rfl, hR, ?_⟩
      rw [add_add, ← Nat.add_mul]; exact hrun
    · cases hi
  refine gl_step (v := .slice (if c = a.toNat then A else A.map (·.add (a.toNat * d.n))) l'.length (c - a.toNat)) h (fun t ht W hW => ?_) (kk _ _ hrep)
  have e1 : (a.toNat : Int) = a := by omega
  have e2 : (b.toNat : Int) = b := by omega
  have hbc : b ≤ (c : Int) := by omega
  rcases kvBound_spec hl with ⟨rfl, rfl⟩ | ⟨x, kx, rfl, hx'⟩
  · rcases kvBound_spec hh with ⟨rfl, rfl⟩ | ⟨y, ky, rfl, hy⟩
    · simp [execOp, ho, ht.op hs, Instr.sliceAt, Instr.slice, run_underlying' hu1, Instr.sliceBounds, hu2, hlen]
    · simp [execOp, ho, ht.op hs, ht.op hy, Instr.sliceAt, Instr.slice, run_underlying' hu1, Instr.sliceBounds, Instr.sliceBound, asIntOf, hu2, show 0 ≤ b by omega, hbc, hlen]
  · rcases kvBound_spec hh with ⟨rfl, rfl⟩ | ⟨y, ky, rfl, hy⟩
    · simp [execOp, ho, ht.op hs, ht.op hx', Instr.sliceAt, Instr.slice, run_underlying' hu1, Instr.sliceBounds, Instr.sliceBound, asIntOf, hu2, h0, h1, hlen]
    · simp [execOp, ho, ht.op hs, ht.op hx', ht.op hy, Instr.sliceAt, Instr.slice, run_underlying' hu1, Instr.sliceBounds, Instr.sliceBound, asIntOf, hu2, show 0 ≤ b by omega, hbc, e2, h0, h1, hlen]
end
theorem gl_kv {P : Program} {ops : Array Oper} {k N : Nat} {K K' : KV} {I : Imm} {L : Own} {T : TPost} (e : K = K') (h : GLk P ops k N K' I L T) : GLk P ops k N K I L T := by rw [e]; exact h
theorem hd_len {α : Type} {l l' : List α} {n : Nat} (h : l' = l.take n) : l' = l.take l'.length := by
  subst h
  rw [List.length_take]
  by_cases hn : n ≤ l.length
  · rw [Nat.min_eq_left hn]
  · rw [Nat.min_eq_right (by omega), List.take_of_length_le (Nat.le_refl _), List.take_of_length_le (by omega)]
/-- An element of an owned row: where it lies, and what it holds as long as the row stays. -/
theorem OwnS.ixAtG {α : Type} {d : Kd α} {e : TypeId} {I : Imm} {A : Option Addr} {c : Nat} {l : List α} {x : α} {i : Int} {C : Own} (hx : ix l i = some x) (hO : OwnS d e I A c l C) :
    ∃ p cs, d.R I x cs ∧ (∀ I' L', (∀ q ∈ C, q ∈ L') → AtL I' L' p cs) ∧ (∃ a, A = some a ∧ p = a.add (i.toNat * d.n)) ∧ ∃ g, A = some ⟨g, 0, none⟩ ∧ p = (⟨g, 0, none⟩ : Addr).add (i.toNat * d.n) := by
  obtain ⟨p, cs, h1, h2, a, h3, h4⟩ := OwnS.ixAt hx hO
  refine ⟨p, cs, h1, h2, ⟨a, h3, h4⟩, ?_⟩
  rcases hO with ⟨_, _, _, h⟩ | ⟨g, cells, fz, rfl, rfl, _⟩
  · rw [h] at h3; cases h3
  · cases h3; exact ⟨g, rfl, h4⟩
theorem lset_length {α : Type} (l : List α) (i : Int) (y : α) : (lset l i y).length = l.length := by simp [lset]
/-- Functions that call themselves: so many times at most. -/
def iterF {α β : Type} (F : (α → Option β) → α → Option β) : Nat → α → Option β
  | 0 => fun _ => none
  | n + 1 => F (iterF F n)
theorem iterF_succ {α β : Type} (F : (α → Option β) → α → Option β) (n : Nat) : iterF F (n + 1) = F (iterF F n) := rfl
end Go.GB

/- Short forms of steps (squeeze.py writes them). -/
set_option linter.unusedVariables false
set_option linter.unusedSimpArgs false
namespace Go.GB
open Go.RowKit
theorem mcs {α : Type} {a : α} {l : List α} : a ∈ a :: l := List.mem_cons_self
theorem fmc {α : Type} {p : α → Prop} {a : α} {l : List α} (h : p a ∧ ∀ x, x ∈ l → p x) : ∀ x, x ∈ a :: l → p x := List.forall_mem_cons.2 h
theorem fma {α : Type} {p : α → Prop} {l k : List α} (h : (∀ x, x ∈ l → p x) ∧ ∀ x, x ∈ k → p x) : ∀ x, x ∈ l ++ k → p x := List.forall_mem_append.2 h
theorem mar {α : Type} {a : α} {l k : List α} (h : a ∈ k) : a ∈ l ++ k := List.mem_append_right l h
theorem mal {α : Type} {a : α} {l k : List α} (h : a ∈ l) : a ∈ l ++ k := List.mem_append_left k h
theorem nim {α : Type} {p : α → Prop} : ∀ x, x ∈ ([] : List α) → p x := fun _ h => by cases h
def rng : Nat → Nat → List (Nat × Bool)
  | _, 0 => []
  | a, n + 1 => (a, true) :: rng (a + 1) n
section
variable {P : Program} {c : Code} {ops : Array Oper} {k N : Nat} {K : KV} {I I0 : Imm} {L L0 : Own} {Q : Post} {T : TPost}
theorem qE {e : Exit} (h : GE e N K I L Q) (hk : Nat.ble ops.size k = true := by kernel_rfl) : GLk P ops k N K I L (atE e Q) := gl_atE hk h
theorem qs (h : GCk P c N K I L Q) {Q' : Post} : GE .normal N K I L (seqQ (toC P c Q) Q') := ge_seq h
theorem qk (h : GCk P (c1 c) N K I L (seqQ (toC P (c2 c) Q) Q)) (hk : isSeq c = true := by kernel_rfl) : GCk P c N K I L Q := gk_seq hk h
theorem qR (h : GLk P (cOps c) 0 N K I L (atE .normal Q)) (hk : isRegion false c = true := by kernel_rfl) : GCk P c N K I L Q := gk_region hk h
theorem qx (h : GE .normal N K I L Q) (hk : isSkip c = true := by kernel_rfl) : GCk P c N K I L Q := gk_skip hk h
theorem qb (h : GCk P (c1 c) N K I L (blockQ (cId c) Q)) (hk : isBlock c = true := by kernel_rfl) : GCk P c N K I L Q := gk_block hk h
theorem qn {id : Nat} (h : GE .normal N K I L Q) : GE .normal N K I L (blockQ id Q) := ge_block_normal h
theorem qt (h : GE .ret N K I L Q) (hk : isRet c = true := by kernel_rfl) : GCk P c N K I L Q := gk_ret hk h
theorem qu {T : TPost} (h : GE .ret N K I L Q) : GE .ret N K I L (seqQ T Q) := ge_seq_ret h
theorem qv {id : Nat} (h : GE .ret N K I L Q) : GE .ret N K I L (blockQ id Q) := ge_block_ret h
theorem qe (h : GE (.exit (cId c)) N K I L Q) (hk : isExit c = true := by kernel_rfl) : GCk P c N K I L Q := gk_exit hk h
theorem qf {j : Nat} {T : TPost} (h : GE (.exit j) N K I L Q) : GE (.exit j) N K I L (seqQ T Q) := ge_seq_exit h
theorem qh {id j : Nat} (h : GE .normal N K I L Q) (hj : Nat.beq j id = true := by kernel_rfl) : GE (.exit j) N K I L (blockQ id Q) := ge_block_hit hj h
theorem qm {id j : Nat} (h : GE (.exit j) N K I L Q) (hj : Nat.beq j id = false := by kernel_rfl) : GE (.exit j) N K I L (blockQ id Q) := ge_block_miss hj h
theorem qp (m : Nat) (l : List Nat) (K' : KV) (kk : GLk P ops (k + m) N K' I L T) (h : runPick P ops N m k K l = some K' := by kernel_rfl) : GLk P ops k N K I L T := gl_pure m l h kk
theorem qq (l : List Nat) (K' : KV) (kk : GCk P c N K' I L Q) (hp : kvPick l K = some K' := by kernel_rfl) : GCk P c N K I L Q := gk_pick l hp kk
theorem dp {D : Dr} {s : List (Nat × Bool)} (m : Nat) (l : List Nat) (K' : KV) (s' : List (Nat × Bool)) (hc : CC I0 L0 I L) (kk : GDk D I0 L0 s' K' I L) (h : runDP D.P D.ops D.N m s K l = some (K', s') := by kernel_rfl) : GDk D I0 L0 s K I L := gd_pure m l hc h kk
end
end Go.GB

/- strings.Builder: copyCheck, in a world where the builder's block is known. -/
set_option linter.unusedVariables false
set_option linter.unusedSimpArgs false
namespace Go.Proofs
open Go.RowKit Go.Shelf
set_option maxRecDepth 100000 in
set_option maxHeartbeats 2000000 in
theorem bcopy_none (g : Nat) (w : World) (hc : w.cell? ⟨g, 0, none⟩ = some (.pointer none)) (hsh : w.shape? g = some (128, 2)) (hf : w.frozen? ⟨g, 0, none⟩ = false) :
    Calls Tryz.prog 132 #[.pointer (some ⟨g, 0, none⟩)] w fun e w' => e = .returned (.tuple #[]) ∧ w' = w.setCell ⟨g, 0, none⟩ (.pointer (some ⟨g, 0, none⟩)) := by
  obtain ⟨j, hj, hjs⟩ : ∃ j, Tryz.prog.info? 128 = some j ∧ j.size = 2 := Option.map_eq_some_iff.1 (show (Tryz.prog.info? 128).map (·.size) = some 2 by kernel_rfl)
  refine (callsIn_wide (n := 3)).1 (callsIn_of_wp Tryz.func132 rfl trivial ?_ rfl)
  simp only [Tryz.ntmps132, List.size_toArray, List.length_cons, List.length_nil, Nat.reduceAdd, Nat.reduceSub, Array.replicate_succ, Array.replicate_zero, List.push_toArray, List.append_toArray, List.nil_append, List.cons_append]
  gi_wp2
  rw [Lib.run_to_unsafe w ⟨g, 0, none⟩ Tryz.underlying126 Tryz.underlying173 hj (by rw [hjs]; decide) hsh (Nat.zero_lt_succ 1)]
  simp only [Result.andThen]
  gi_wp2
  refine ⟨trivial, ?_⟩
  rw [run_callFunc_extern Tryz.func142 (by kernel_rfl) (by kernel_rfl) (by kernel_rfl) (e := Extern.AbiNoEscape.same) (by kernel_rfl)]
  rw [Lib.run_noEscape]
  simp only [Result.andThen]
  gi_wp2
  rw [Lib.run_from_unsafe w ⟨g, 0, none⟩ Tryz.underlying173 Tryz.underlying126 hj hsh (show liesAt Tryz.prog Tryz.prog.depth 128 (2 / Tryz.prog.cellsOf 128) 0 128 1 = true by kernel_rfl)]
  simp only [Result.andThen]
  gi_wp2
  go_end0
  exact ⟨rfl, rfl⟩
set_option maxRecDepth 100000 in
set_option maxHeartbeats 2000000 in
theorem bcopy_self (g : Nat) (w : World) (hc : w.cell? ⟨g, 0, none⟩ = some (.pointer (some ⟨g, 0, none⟩))) :
    Calls Tryz.prog 132 #[.pointer (some ⟨g, 0, none⟩)] w fun e w' => e = .returned (.tuple #[]) ∧ w' = w := by
  refine (callsIn_wide (n := 3)).1 (callsIn_of_wp Tryz.func132 rfl trivial ?_ rfl)
  simp only [Tryz.ntmps132, List.size_toArray, List.length_cons, List.length_nil, Nat.reduceAdd, Nat.reduceSub, Array.replicate_succ, Array.replicate_zero, List.push_toArray, List.append_toArray, List.nil_append, List.cons_append]
  gi_wp2
  obtain ⟨j, hj, _⟩ : ∃ j, Tryz.prog.info? 128 = some j ∧ j.size = 2 := Option.map_eq_some_iff.1 (show (Tryz.prog.info? 128).map (·.size) = some 2 by kernel_rfl)
  rw [Lib.run_neq_ptr_same w _ Tryz.underlying126 hj]
  simp only [Result.andThen]
  gi_wp2
  go_end0
  exact ⟨rfl, rfl⟩
set_option maxRecDepth 100000 in
set_option maxHeartbeats 2000000 in
theorem bstr_none (g : Nat) (T : TypeId) (p : Value) (w : World) (hb : w.heap[g]? = some (.cells #[p, .slice none 0 0] T (0, 0))) :
    Calls Tryz.prog 111 #[.pointer (some ⟨g, 0, none⟩)] w fun e w' => e = .returned (.string ⟨#[]⟩) ∧ w' = w.drew := by
  have c1 : w.drew.cell? ⟨g, 1, none⟩ = some (.slice none 0 0) := by
    have : w.drew.heap[g]? = some (.cells #[p, .slice none 0 0] T (0, 0)) := hb
    rw [Lib.cell_of_heap this]; rfl
  have hSD : (Builtin.unsafeSliceData_ #[51] 166 #[.slice none 0 0]).run Tryz.prog w.drew = .ok (.pointer none) w.drew := rfl
  have hUS : (Builtin.unsafeString_ #[166, 3] 9 #[.pointer none, .int .i64 0]).run Tryz.prog w.drew = .ok (.string ⟨#[]⟩) w.drew := Lib.run_unsafeString_none _ _ _ _ _
  refine calls_of_wp Tryz.func111 rfl ?_
  simp only [Tryz.ntmps111, List.size_toArray, List.length_cons, List.length_nil, Nat.reduceAdd, Nat.reduceSub, Array.replicate_succ, Array.replicate_zero, List.push_toArray, List.append_toArray, List.nil_append, List.cons_append]
  have mixed : Tryz.prog.follows .mixedOrders = true := by kernel_rfl
  go_wp2
  go_region_o
  all_goals (go_wp2; go_ret; exact ⟨rfl, rfl⟩)
set_option maxRecDepth 100000 in
set_option maxHeartbeats 2000000 in
theorem bstr_some (g gb c : Nat) (T : TypeId) (p : Value) (cur : Array Value) (fz : Nat × Nat) (l : List UInt8) (w : World) (h0 : l ≠ []) (hb : w.heap[g]? = some (.cells #[p, .slice (some ⟨gb, 0, none⟩) l.length c] T (0, 0)))
    (hg : w.heap[gb]? = some (.cells cur 5 fz)) (hc : c ≠ 0) (hn : l.length ≤ cur.size) (hm : l.length ≤ 2147483648) (hx : ∀ (j : Nat) (x : UInt8), l[j]? = some x → cur[j]? = some (Value.int .u8 (x.toNat : Int))) :
    Calls Tryz.prog 111 #[.pointer (some ⟨g, 0, none⟩)] w fun e w' => e = .returned (.string ⟨l.toArray⟩) ∧ w' = w.drew.freeze ⟨gb, 0, none⟩ l.length := by
  have c1 : w.drew.cell? ⟨g, 1, none⟩ = some (.slice (some ⟨gb, 0, none⟩) l.length c) := by
    have : w.drew.heap[g]? = some (.cells #[p, .slice (some ⟨gb, 0, none⟩) l.length c] T (0, 0)) := hb
    rw [Lib.cell_of_heap this]; rfl
  have hSD : (Builtin.unsafeSliceData_ #[51] 166 #[.slice (some ⟨gb, 0, none⟩) l.length c]).run Tryz.prog w.drew = .ok (.pointer (some ⟨gb, 0, none⟩)) w.drew :=
    Lib.run_unsafeSliceData_row _ _ _ _ _ _ hc
  have hUS : (Builtin.unsafeString_ #[166, 3] 9 #[.pointer (some ⟨gb, 0, none⟩), .int .i64 l.length]).run Tryz.prog w.drew = .ok (.string ⟨l.toArray⟩) (w.drew.freeze ⟨gb, 0, none⟩ l.length) := by
    refine Lib.run_unsafeString_row w.drew 166 3 9 5 Tryz.underlying166 (by kernel_rfl) gb cur.size (by have hg' : w.drew.heap[gb]? = some (.cells cur 5 fz) := hg; simp [World.shape?, hg']) l h0 hn (by omega) ?_
    intro j x hj
    have hg' : w.drew.heap[gb]? = some (.cells cur 5 fz) := hg
    have := hx j x hj
    have e : (⟨gb, 0, none⟩ : Addr).add j = ⟨gb, j, none⟩ := by unfold Addr.add; split <;> simp_all
    rw [e]
    simp [World.cell?, hg', this]
  refine calls_of_wp Tryz.func111 rfl ?_
  simp only [Tryz.ntmps111, List.size_toArray, List.length_cons, List.length_nil, Nat.reduceAdd, Nat.reduceSub, Array.replicate_succ, Array.replicate_zero, List.push_toArray, List.append_toArray, List.nil_append, List.cons_append]
  have mixed : Tryz.prog.follows .mixedOrders = true := by kernel_rfl
  go_wp2
  go_region_o
  all_goals (go_wp2; go_ret; exact ⟨rfl, rfl⟩)
set_option maxRecDepth 100000 in
set_option maxHeartbeats 2000000 in
theorem bstr_empty (g gb c : Nat) (T : TypeId) (p : Value) (cur : Array Value) (fz : Nat × Nat) (w : World) (hb : w.heap[g]? = some (.cells #[p, .slice (some ⟨gb, 0, none⟩) 0 c] T (0, 0))) (hg : w.heap[gb]? = some (.cells cur 5 fz)) (hc : c ≠ 0) :
    Calls Tryz.prog 111 #[.pointer (some ⟨g, 0, none⟩)] w fun e w' => e = .returned (.string ⟨#[]⟩) ∧ w' = w.drew := by
  have c1 : w.drew.cell? ⟨g, 1, none⟩ = some (.slice (some ⟨gb, 0, none⟩) 0 c) := by
    have : w.drew.heap[g]? = some (.cells #[p, .slice (some ⟨gb, 0, none⟩) 0 c] T (0, 0)) := hb
    rw [Lib.cell_of_heap this]; rfl
  have hSD : (Builtin.unsafeSliceData_ #[51] 166 #[.slice (some ⟨gb, 0, none⟩) 0 c]).run Tryz.prog w.drew = .ok (.pointer (some ⟨gb, 0, none⟩)) w.drew := Lib.run_unsafeSliceData_row _ _ _ _ _ _ hc
  have hUS : (Builtin.unsafeString_ #[166, 3] 9 #[.pointer (some ⟨gb, 0, none⟩), .int .i64 0]).run Tryz.prog w.drew = .ok (.string ⟨#[]⟩) w.drew := Lib.run_unsafeString_none _ _ _ _ _
  refine calls_of_wp Tryz.func111 rfl ?_
  simp only [Tryz.ntmps111, List.size_toArray, List.length_cons, List.length_nil, Nat.reduceAdd, Nat.reduceSub, Array.replicate_succ, Array.replicate_zero, List.push_toArray, List.append_toArray, List.nil_append, List.cons_append]
  have mixed : Tryz.prog.follows .mixedOrders = true := by kernel_rfl
  go_wp2
  go_region_o
  all_goals (go_wp2; go_ret; exact ⟨rfl, rfl⟩)
set_option maxRecDepth 100000 in
set_option maxHeartbeats 2000000 in
theorem bstr_zero (g gb : Nat) (T : TypeId) (p : Value) (cur : Array Value) (fz : Nat × Nat) (w : World) (hb : w.heap[g]? = some (.cells #[p, .slice (some ⟨gb, 0, none⟩) 0 0] T (0, 0))) (hg : w.heap[gb]? = some (.cells cur 5 fz)) :
    Calls Tryz.prog 111 #[.pointer (some ⟨g, 0, none⟩)] w fun e w' => e = .returned (.string ⟨#[]⟩) ∧ w' = (w.alloc (.view ⟨gb, 0, none⟩ 5)).drew := by
  have c1 : w.drew.cell? ⟨g, 1, none⟩ = some (.slice (some ⟨gb, 0, none⟩) 0 0) := by
    have : w.drew.heap[g]? = some (.cells #[p, .slice (some ⟨gb, 0, none⟩) 0 0] T (0, 0)) := hb
    rw [Lib.cell_of_heap this]; rfl
  have c2 : (w.alloc (.view ⟨gb, 0, none⟩ 5)).cell? ⟨g, 1, none⟩ = some (.slice (some ⟨gb, 0, none⟩) 0 0) := cell_kept (W := w) c1 (World.grownBy_alloc w _ none) (fun r e => by cases e)
  have hSD : (Builtin.unsafeSliceData_ #[51] 166 #[.slice (some ⟨gb, 0, none⟩) 0 0]).run Tryz.prog w.drew = .ok (.pointer (some ⟨w.heap.size, 0, none⟩)) (w.alloc (.view ⟨gb, 0, none⟩ 5)).drew :=
    Lib.run_unsafeSliceData_zero _ _ _ _ Tryz.underlying166 _ _ (5, cur.size) (by have hg' : w.drew.heap[gb]? = some (.cells cur 5 fz) := hg; simp [World.shape?, hg'])
  have hUS : (Builtin.unsafeString_ #[166, 3] 9 #[.pointer (some ⟨w.heap.size, 0, none⟩), .int .i64 0]).run Tryz.prog (w.alloc (.view ⟨gb, 0, none⟩ 5)).drew = .ok (.string ⟨#[]⟩) (w.alloc (.view ⟨gb, 0, none⟩ 5)).drew := Lib.run_unsafeString_none _ _ _ _ _
  refine calls_of_wp Tryz.func111 rfl ?_
  simp only [Tryz.ntmps111, List.size_toArray, List.length_cons, List.length_nil, Nat.reduceAdd, Nat.reduceSub, Array.replicate_succ, Array.replicate_zero, List.push_toArray, List.append_toArray, List.nil_append, List.cons_append]
  have mixed : Tryz.prog.follows .mixedOrders = true := by kernel_rfl
  go_wp2
  go_region_o
  all_goals (go_wp2; go_ret; exact ⟨rfl, rfl⟩)
end Go.Proofs

/- strings.Builder: copyCheck and String, as calls over owned blocks. -/
set_option linter.unusedVariables false
set_option linter.unusedSimpArgs false
namespace Go.GB
open Go.RowKit Go.Proofs
theorem bld_copyCheck {g : Nat} {p : Option Addr} {x : Value} {I : Imm} (hp : p = none ∨ p = some (⟨g, 0, none⟩ : Addr)) (L : Own) :
    CallsTo Tryz.prog 132 #[.pointer (some ⟨g, 0, none⟩)] I ((g, .cells #[.pointer p, x] 128) :: L) (fun v I' L' => v = .tuple #[] ∧ (g, .cells #[.pointer (some ⟨g, 0, none⟩), x] 128) :: L = L') := by
  intro W hW
  have hg : W.heap[g]? = some (.cells #[.pointer p, x] 128) := hW.own (g, .cells #[.pointer p, x] 128) (by simp)
  rcases hp with rfl | rfl
  · refine (bcopy_none g W (by simp [World.cell?, hg]) (by simp [World.shape?, hg]) (by simp [World.frozen?, hg])).mono ?_
    rintro e W' ⟨rfl, rfl⟩
    refine ⟨_, I, _, rfl, Imm.refl I, Holds.set (A := []) hW (.cells #[.pointer (some ⟨g, 0, none⟩), x] 128) ?_ (fun b hb => ?_) rfl rfl ⟨rfl, Nat.le_refl _⟩, rfl, rfl⟩
    · simp only [World.setCell, Array.getElem?_modify, if_true, hg, Option.map_some]; rfl
    · simp only [World.setCell, Array.getElem?_modify]
      rw [if_neg (fun e => hb e.symm)]
  · refine (bcopy_self g W (by simp [World.cell?, hg])).mono ?_
    rintro e W' ⟨rfl, rfl⟩
    exact ⟨_, I, _, rfl, Imm.refl I, hW, rfl, rfl⟩
open Classical in
noncomputable def strO (xs : List Int) : Option ByteArray := if ∀ x ∈ xs, 0 ≤ x ∧ x < 256 then some ⟨(xs.map (fun x => UInt8.ofNat x.toNat)).toArray⟩ else none
theorem bld_String {g : Nat} {p : Option Addr} {A : Option Addr} {c : Nat} {xs : List Int} {C : Own} {I : Imm} {r : ByteArray} (hO : OwnS (Kd.int .u8) 5 I A c xs C) (hr : strO xs = some r) (L : Own) :
    CallsTo Tryz.prog 111 #[.pointer (some ⟨g, 0, none⟩)] I ((g, .cells #[.pointer p, .slice A xs.length c] 128) :: (C ++ L)) (fun v I' L' => v = .string r ∧ L = L') := by
  intro W hW
  unfold strO at hr
  split at hr <;> cases hr
  rename_i hx
  have hg : W.heap[g]? = some (.cells #[.pointer p, .slice A xs.length c] 128) := hW.own (g, .cells #[.pointer p, .slice A xs.length c] 128) (by simp)
  rcases hO with ⟨rfl, rfl, rfl, rfl⟩ | ⟨gb, cells, fz, rfl, rfl, hfz, h4, h5, h6, h7⟩
  · refine (bstr_none g 128 _ W hg).mono ?_
    rintro e W' ⟨rfl, rfl⟩
    have h2 : Holds I L W := Holds.drop (C := [(g, .cells #[.pointer p, .slice none ([] : List Int).length 0] 128)]) hW
    exact ⟨_, I, L, rfl, Imm.refl I, h2.drawn (W.drawn + 1), rfl, rfl⟩
  · have hgb : W.heap[gb]? = some (.cells cells 5 fz) := hW.own (gb, .cells cells 5 fz) (by simp)
    have hn1 : (Kd.int .u8).n = 1 := rfl
    rw [hn1, Nat.mul_one] at h5
    have h7' : xs.length ≤ 2147483648 := h7
    by_cases h0 : xs = []
    · subst h0
      have h2 : Holds I L W := (Holds.drop (C := [(g, .cells #[.pointer p, .slice (some ⟨gb, 0, none⟩) ([] : List Int).length c] 128)]) hW).sub (List.sublist_cons_self _ _)
      by_cases hc : c = 0
      · subst hc
        refine (bstr_zero g gb 128 (.pointer p) cells fz W hg hgb).mono ?_
        rintro e W' ⟨rfl, rfl⟩
        exact ⟨_, I, L, rfl, Imm.refl I, ((h2.drawn (W.drawn + 1)).new (.view ⟨gb, 0, none⟩ 5)).sub (List.sublist_cons_self _ _), rfl, rfl⟩
      · refine (bstr_empty g gb c 128 (.pointer p) cells fz W hg hgb hc).mono ?_
        rintro e W' ⟨rfl, rfl⟩
        exact ⟨_, I, L, rfl, Imm.refl I, h2.drawn (W.drawn + 1), rfl, rfl⟩
    · have hl0 : xs.map (fun x => UInt8.ofNat x.toNat) ≠ [] := by simpa using h0
      have hpos : 0 < xs.length := List.length_pos_iff.2 h0
      have hll : (xs.map (fun x => UInt8.ofNat x.toNat)).length = xs.length := by simp
      refine (bstr_some g gb c 128 (.pointer p) cells fz (xs.map (fun x => UInt8.ofNat x.toNat)) W hl0 (by rw [hll]; exact hg) hgb (by omega) (by rw [hll]; omega) (by rw [hll]; omega) (fun j y hj => ?_)).mono ?_
      · rw [List.getElem?_map] at hj
        cases hxj : xs[j]? with
        | none => rw [hxj] at hj; cases hj
        | some z =>
          rw [hxj] at hj
          simp only [Option.map_some, Option.some.injEq] at hj
          obtain ⟨l, hl, hc⟩ := h6.at_ j z hxj
          obtain rfl : l = [.int .u8 z] := hl
          have h8 := hc 0 (.int .u8 z) rfl
          rw [hn1, Nat.mul_one, Nat.add_zero] at h8
          have h9 := hx z (List.mem_of_getElem? hxj)
          rw [h8, ← hj]
          congr 2
          rw [UInt8.toNat_ofNat']
          omega
      · rintro e W' ⟨rfl, rfl⟩
        rw [hll]
        obtain ⟨o', ho'⟩ : ∃ o', W.drew.freeze ⟨gb, 0, none⟩ xs.length = { W with drawn := W.drawn + 1, heap := W.heap.modify gb o' } ∧ ∃ fz', o' (.cells cells 5 fz) = .cells cells 5 fz' := by
          unfold World.freeze
          rw [if_neg (by omega)]
          exact ⟨_, rfl, _, rfl⟩
        obtain ⟨ew, fz', hf'⟩ := ho'
        rw [ew]
        have h2 := Holds.set (A := [(g, .cells #[.pointer p, .slice (some ⟨gb, 0, none⟩) xs.length c] 128)]) (L := L) hW (W' := { W with drawn := W.drawn + 1, heap := W.heap.modify gb o' }) (.cells cells 5 fz') (by
          show (W.heap.modify gb o')[gb]? = _
          rw [Array.getElem?_modify, if_pos rfl, hgb, Option.map_some, hf']) (fun b hb => by
          show (W.heap.modify gb o')[b]? = _
          rw [Array.getElem?_modify, if_neg (Ne.symm hb)]) rfl rfl ⟨rfl, Nat.le_succ _⟩
        exact ⟨_, I, L, rfl, Imm.refl I, (Holds.drop (C := [(g, .cells #[.pointer p, .slice (some ⟨gb, 0, none⟩) xs.length c] 128)]) h2).sub (List.sublist_cons_self _ _), rfl, rfl⟩
end Go.GB
namespace Go.Proofs.YtnlkfajnaelnnaaGreatDoor
/-- The kit has an Own of another meaning. -/
abbrev Own := Go.GB.Own
end Go.Proofs.YtnlkfajnaelnnaaGreatDoor

/- Maps of the call's own: made, looked up, written. -/
set_option linter.unusedVariables false
set_option linter.unusedSimpArgs false
namespace Go.GB
/-! ### 1. Keys -/
structure Ky (κ : Type) where
  val : κ → Value
  beq : κ → κ → Bool
  desc : TypeDesc → Bool
  now : ∀ d, desc d = true → ∀ a b, Instr.sameNow d (val a) (val b) = some (beq a b)
  chk : ∀ (P : Program) (t : TypeId) (d : TypeDesc), P.underlying t = some d → desc d = true → ∀ (e : Bool) (a : κ) (W : World), (Instr.checkKey e 10000 t (val a)).run P W = .ok () W
  bits : ∀ a b, beq a b = true → Instr.sameBits 10000 (val b) (val a) = true
theorem checkKey_plain {P : Program} {t : TypeId} {d : TypeDesc} (ht : P.underlying t = some d) (hd : (match d with | .int _ | .string | .bool => true | _ => false) = true) (e : Bool) (v : Value) (n : Nat) (W : World) : (Instr.checkKey e (n + 1) t v).run P W = .ok () W := by
  cases d <;> simp_all [Instr.checkKey, run_underlying' ht]
theorem sameBits_str (n : Nat) (a b : ByteArray) : Instr.sameBits n (.string a) (.string b) = (a == b) := by cases n <;> rfl
theorem sameBits_int (n : Nat) (k : IntKind) (a b : Int) : Instr.sameBits n (.int k a) (.int k b) = (a == b) := by cases n <;> simp [Instr.sameBits]
def Ky.int (k : IntKind) : Ky Int where
  val := .int k
  beq := fun a b => a == b
  desc := fun d => match d with | .int _ => true | _ => false
  now := fun d hd a b => by cases d <;> simp_all [Instr.sameNow]
  chk := fun P t d ht hd e a W => checkKey_plain ht (by cases d <;> simp_all) e _ 9999 W
  bits := fun a b h => by simp only [beq_iff_eq] at h; subst h; rw [sameBits_int]; simp
theorem ba_beq {a b : ByteArray} : (a == b) = true ↔ a = b := by
  obtain ⟨x⟩ := a
  obtain ⟨y⟩ := b
  show (x == y) = true ↔ _
  simp
def Ky.str : Ky ByteArray where
  val := .string
  beq := fun a b => a == b
  desc := fun d => match d with | .string => true | _ => false
  now := fun d hd a b => by cases d <;> simp_all [Instr.sameNow]
  chk := fun P t d ht hd e a W => checkKey_plain ht (by cases d <;> simp_all) e _ 9999 W
  bits := fun a b h => by obtain rfl := ba_beq.1 h; rw [sameBits_str]; exact ba_beq.2 rfl
/-! ### 2. What a map is -/
def mget {κ υ : Type} (ky : Ky κ) : List (κ × υ) → κ → Option υ
  | [], _ => none
  | (k', v) :: m, k => bif ky.beq k k' then some v else mget ky m k
def mput {κ υ : Type} (ky : Ky κ) : List (κ × υ) → κ → υ → List (κ × υ)
  | [], k, v => [(k, v)]
  | (k', v') :: m, k, v => bif ky.beq k k' then (k, v) :: m else (k', v') :: mput ky m k v
/-- A value as one word. -/
def valR {υ : Type} (d : Kd υ) (agg : Bool) (I : Imm) (v : υ) (u : Value) : Prop := bif agg then ∃ cs : List Value, u = .agg cs.toArray ∧ d.R I v cs else d.R I v [u]
theorem valR.mono {υ : Type} {d : Kd υ} {agg : Bool} {I J : Imm} {v : υ} {u : Value} (h : valR d agg I v u) (hI : I ≤ J) : valR d agg J v u := by
  unfold valR at *
  cases agg with
  | true => obtain ⟨cs, h1, h2⟩ := h; exact ⟨cs, h1, d.mono hI h2⟩
  | false => exact d.mono hI h
inductive EntsR {κ υ : Type} (ky : Ky κ) (V : υ → Value → Prop) : List (κ × υ) → List MapEntry → Prop
  | nil : EntsR ky V [] []
  | cons {k : κ} {v : υ} {m : List (κ × υ)} {e : MapEntry} {es : List MapEntry} : e.key = ky.val k → V v e.val → EntsR ky V m es → EntsR ky V ((k, v) :: m) (e :: es)
theorem EntsR.mono {κ υ : Type} {ky : Ky κ} {V V' : υ → Value → Prop} (hV : ∀ v u, V v u → V' v u) {m : List (κ × υ)} {es : List MapEntry} (h : EntsR ky V m es) : EntsR ky V' m es := by
  induction h with
  | nil => exact .nil
  | cons h1 h2 _ ih => exact .cons h1 (hV _ _ h2) ih
theorem EntsR.find {κ υ : Type} {ky : Ky κ} {V : υ → Value → Prop} {d : TypeDesc} (hd : ky.desc d = true) (k : κ) {m : List (κ × υ)} {es : List MapEntry} (h : EntsR ky V m es) : ∀ i : Nat,
    (mget ky m k = none ∧ Instr.findNow d (ky.val k) es i = some none ∧ ∀ v u b, V v u → EntsR ky V (mput ky m k v) (es ++ [{ key := ky.val k, val := u, born := b }])) ∨
    (∃ v j u e k', mget ky m k = some v ∧ Instr.findNow d (ky.val k) es i = some (some (i + j, u)) ∧ V v u ∧ es[j]? = some e ∧ e.key = ky.val k' ∧ ky.beq k k' = true ∧
      ∀ v' u', V v' u' → EntsR ky V (mput ky m k v') (es.set j { e with key := ky.val k, val := u' })) := by
  induction h with
  | nil => exact fun i => .inl ⟨rfl, rfl, fun v u b hv => .cons rfl hv .nil⟩
  | @cons k1 v1 m e es h1 h2 h3 ih =>
    intro i
    have hn := ky.now d hd k k1
    cases hb : ky.beq k k1 with
    | true =>
      rw [hb] at hn
      refine .inr ⟨v1, 0, e.val, e, k1, by simp [mget, hb], by simp [Instr.findNow, h1, hn], h2, rfl, h1, hb, fun v' u' hv => ?_⟩
      simp only [mput, hb, cond_true, List.set_cons_zero]
      exact .cons rfl hv h3
    | false =>
      rw [hb] at hn
      rcases ih (i + 1) with ⟨q1, q2, q3⟩ | ⟨v, j, u, e', k', q1, q2, q3, q4, q5, q6, q7⟩
      · refine .inl ⟨by simp [mget, hb, q1], by simp [Instr.findNow, h1, hn, q2], fun v u b hv => ?_⟩
        simp only [mput, hb, cond_false, List.cons_append]
        exact .cons h1 h2 (q3 v u b hv)
      · refine .inr ⟨v, j + 1, u, e', k', by simp [mget, hb, q1], ?_, q3, by simpa using q4, q5, q6, fun v' u' hv => ?_⟩
        · simp only [Instr.findNow, h1, hn, q2]; congr 3; omega
        · simp only [mput, hb, cond_false, List.set_cons_succ]
          exact .cons h1 h2 (q7 v' u' hv)
/-- A map that the call owns: C is its block. -/
def OwnM {κ υ : Type} (ky : Ky κ) (d : Kd υ) (agg : Bool) (I : Imm) (g : Nat) (m : List (κ × υ)) (C : Own) : Prop := ∃ es clk, C = [(g, .map es clk)] ∧ EntsR ky (valR d agg I) m es.toList
theorem OwnM.mono {κ υ : Type} {ky : Ky κ} {d : Kd υ} {agg : Bool} {I J : Imm} {g : Nat} {m : List (κ × υ)} {C : Own} (h : OwnM ky d agg I g m C) (hI : I ≤ J) : OwnM ky d agg J g m C := by
  obtain ⟨es, clk, h1, h2⟩ := h
  exact ⟨es, clk, h1, h2.mono fun v u hv => hv.mono hI⟩
section
variable {P : Program} {ops : Array Oper} {k N : Nat} {K : KV} {I : Imm} {L : Own} {T : TPost}
end
end Go.GB

/- Floats: a number's bits, or some NaN of which nothing more is known. -/
set_option linter.unusedVariables false
set_option linter.unusedSimpArgs false
namespace Go.GB
open Ieee
/-- What is known of a float: its bits; none: it is a NaN. -/
abbrev Fl := Option Nat
def NaNw (b : Nat) : Prop := (double.read b).isNaN = true
def FRep : Fl → Nat → Prop
  | some x, b => b = x
  | none, b => NaNw b
theorem FRep.eq {x b : Nat} (h : FRep (some x) b) : b = x := h
theorem FRep.of (x : Nat) : FRep (some x) x := rfl
section
variable {P : Program} {ops : Array Oper} {k N : Nat} {K : KV} {I : Imm} {L : Own} {T : TPost}
/-! ### Functions without a body; conversions -/
end
end Go.GB

/- A byte replacer that is read: 256 slices of bytes (nil where nothing stands for the byte), and the row of what is replaced. -/
set_option linter.unusedVariables false
set_option linter.unusedSimpArgs false
namespace Go.GB
open Go.RowKit Go.Proofs
structure RepT (I : Imm) (g : Nat) (tab : List (List Int)) (ws : List ByteArray) : Prop where
  len : tab.length = 256
  at_ : ∀ i x, tab[i]? = some x → ∃ A c, I.cell ⟨g, i, none⟩ = some (.slice A x.length c) ∧ RepS (Kd.int .u8) I A c x ∧ A.isNone = x.isEmpty
  row : ∃ A c, I.cell ⟨g, 256, none⟩ = some (.slice A ws.length c) ∧ RepS Kd.str I A c ws
theorem RepT.mono {I J : Imm} {g : Nat} {tab : List (List Int)} {ws : List ByteArray} (h : RepT I g tab ws) (hI : I ≤ J) : RepT J g tab ws := by
  refine ⟨h.len, fun i x hx => ?_, ?_⟩
  · obtain ⟨A, c, h1, h2, h3⟩ := h.at_ i x hx
    exact ⟨A, c, Imm.cell_mono hI h1, h2.mono hI, h3⟩
  · obtain ⟨A, c, h1, h2⟩ := h.row
    exact ⟨A, c, Imm.cell_mono hI h1, h2.mono hI⟩
theorem add_none (g o j : Nat) : (⟨g, o, none⟩ : Addr).add j = ⟨g, o + j, none⟩ := by unfold Addr.add; split <;> simp_all
theorem runAt_one {I : Imm} {g o : Nat} {v : Value} (h : I.cell ⟨g, o, none⟩ = some v) : RunAt I ⟨g, o, none⟩ [v] := by
  intro j w hj
  cases j with
  | zero => cases hj; exact h
  | succ j => simp at hj
/-- An entry of the table: its address (as gl_indexAddrT asks for it), what lies there, and that it is nil where nothing stands for the byte. -/
theorem RepT.ix {I : Imm} {g : Nat} {tab : List (List Int)} {ws : List ByteArray} {i : Int} {x : List Int} (hx : ix tab i = some x) (h : RepT I g tab ws) :
    ∃ A c p, (∃ a', some (⟨g, 0, none⟩ : Addr) = some a' ∧ p = a'.add (i.toNat * 1)) ∧ 0 ≤ i ∧ i < ((256 : Nat) : Int) ∧ RunAt I p [.slice A x.length c] ∧ RepS (Kd.int .u8) I A c x ∧ A.isNone = x.isEmpty := by
  obtain ⟨h0, h1, h2⟩ := ix_some hx
  obtain ⟨A, c, q1, q2, q3⟩ := h.at_ _ _ h2
  rw [h.len] at h1
  refine ⟨A, c, _, ⟨_, rfl, rfl⟩, h0, h1, ?_, q2, q3⟩
  rw [add_none, Nat.mul_one, Nat.zero_add]
  exact runAt_one q1
theorem RepT.words {I : Imm} {g : Nat} {tab : List (List Int)} {ws : List ByteArray} (h : RepT I g tab ws) :
    ∃ A c, RunAt I ((⟨g, 0, none⟩ : Addr).add 256) [.slice A ws.length c] ∧ RepS Kd.str I A c ws := by
  obtain ⟨A, c, q1, q2⟩ := h.row
  exact ⟨A, c, by rw [add_none, Nat.zero_add]; exact runAt_one q1, q2⟩
section
variable {P : Program} {ops : Array Oper} {k N : Nat} {K : KV} {I : Imm} {L : Own} {T : TPost}
/-- Is there a row? (of a place of which that is known) -/
theorem gl_neqNilT {A : Option Addr} {t t' : TypeId} {x y : Operand} {len c : Nat} {a b : Nat} {z : Bool} (hz : A.isNone = z) (ho : (opAt ops k).op = .binOp .neq t x y t') (h : readyKV ops k N K = true)
    (hx : kvOp K x = some (.slice A len c)) (hy : kvOp K y = some (.slice none a b)) (hu : isSliceT P t = true)
    (kk : GLk P ops (k + 1) N (kvPut K (opAt ops k).dst (.bool (!z))) I L T) : GLk P ops k N K I L T := by
  subst hz
  refine gl_step h (fun tm ht W hW => ?_) kk
  unfold isSliceT at hu
  split at hu <;> try (cases hu; done)
  rename_i e hu1
  have h2 : (eqGuard .neq t x y (.slice A len c) (.slice none a b)).run P W = .ok () W := by simp [eqGuard]
  have h3 := run_neq_slice_nil_any (P := P) W t e A len c a b hu1
  simp only [execOp, ho, ht.op hx, ht.op hy, Sem.run_bind, h2, h3, Result.andThen_ok, Sem.run_pure]
end
end Go.GB

set_option linter.unusedVariables false
set_option linter.unusedSimpArgs false
namespace Go.GB
open Go.RowKit Go.Proofs
def cpyv {α : Type} (xs : List α) (k : Int) (m : Nat) (ys : List α) : Option (List α) := if 0 ≤ k ∧ k.toNat + m = xs.length then some (xs.take k.toNat ++ lcopy (xs.drop k.toNat) ys) else none
theorem cpyv_length {α : Type} {xs ys z : List α} {k : Int} {m : Nat} (h : cpyv xs k m ys = some z) : z.length = xs.length := by
  unfold cpyv at h
  split at h <;> cases h
  rename_i hb
  rw [List.length_append, lcopy_length, List.length_take, List.length_drop]
  omega
theorem cpyv_get {α : Type} {xs ys : List α} {k m i : Nat} (h : k + m = xs.length) :
    (xs.take k ++ lcopy (xs.drop k) ys)[i]? = if i < k then xs[i]? else if i - k < min ys.length m then ys[i - k]? else xs[i]? := by
  have hk : (xs.take k).length = k := by rw [List.length_take]; omega
  have hd : (xs.drop k).length = m := by rw [List.length_drop]; omega
  by_cases h1 : i < k
  · rw [if_pos h1, List.getElem?_append_left (by omega), List.getElem?_take, if_pos h1]
  · rw [if_neg h1, List.getElem?_append_right (by omega), hk]
    unfold lcopy
    rw [hd]
    by_cases h2 : i - k < min ys.length m
    · rw [if_pos h2, List.getElem?_append_left (by rw [List.length_take]; omega), List.getElem?_take, if_pos (by omega)]
    · rw [if_neg h2, List.getElem?_append_right (by rw [List.length_take]; omega), List.length_take, List.getElem?_drop, List.getElem?_drop]
      by_cases h3 : i < xs.length
      · congr 1
        omega
      · rw [List.getElem?_eq_none (by omega), List.getElem?_eq_none (by omega)]
section
variable {P : Program} {ops : Array Oper} {k N : Nat} {K : KV} {I : Imm} {L : Own} {T : TPost}
theorem gl_copyV {α : Type} {d : Kd α} {tD tS e e' : TypeId} {A A' A2 : Option Addr} {c c' c2 m : Nat} {xs ys z : List α} {b : Int} {dx sx : Operand} {C : Own} (f : Own → Own)
    (hx : cpyv xs b m ys = some z) (hV : ViewS d.n A A' b m) (hO : OwnS d e' I A c xs C) (hU : ∀ X, Upd L C X (f X)) (hsrc : RdS d I L A2 ys)
    (ho : (opAt ops k).op = .call { callee := .builtin .copy, args := #[dx, sx], argTypes := #[tD, tS] }) (h : readyKV ops k N K = true)
    (hd : kvOp K dx = some (.slice A' m c')) (hs : kvOp K sx = some (.slice A2 ys.length c2)) (he : sliceElem P tD = some (e, d.n))
    (kk : ∀ C', OwnS d e' I A c z C' → GLk P ops (k + 1) N (kvPut K (opAt ops k).dst (.int .i64 ((min ys.length m : Nat) : Int))) I (f C') T) : GLk P ops k N K I L T := by
  have hzlen := cpyv_length hx
  obtain ⟨hu1, hu2⟩ := sliceElem_spec he
  unfold cpyv at hx
  split at hx <;> cases hx
  rename_i hb
  obtain ⟨hb1, hb2⟩ := hb
  refine gl_gen h fun t ht W hW => ?_
  obtain ⟨l, hl, hrow, hone, hcell⟩ := hsrc.rd W hW
  have hm : Nat.min ys.length m = min ys.length m := rfl
  have hml : (l.take (min ys.length m * d.n)).length = min ys.length m * d.n := by
    rw [List.length_take, hl]
    have := Nat.mul_le_mul_right d.n (Nat.min_le_left ys.length m)
    omega
  have hfc : (Builtin.firstCells d.n (min ys.length m) (.slice A2 ys.length c2)).run P W = .ok (l.take (min ys.length m * d.n)).toArray W := by
    by_cases hy : ys = []
    · subst hy
      cases A2 <;> simp [Builtin.firstCells, loadCells, loadCellsFrom]
    · obtain ⟨a, rfl, ha⟩ := hcell hy
      refine run_firstCells_some W d.n _ a ys.length c2 _ hml (fun j v hj => ?_)
      rw [List.getElem?_take] at hj
      split at hj
      · exact ha j v hj
      · cases hj
  by_cases hm0 : m = 0
  · subst hm0
    obtain ⟨R, hR1, hR2⟩ := hW.upd (hU C)
    have hzz : xs.take b.toNat ++ lcopy (xs.drop b.toNat) ys = xs := by
      apply List.ext_getElem?
      intro i
      rw [cpyv_get (m := 0) (by omega)]
      split
      · rfl
      · rw [if_neg (by omega)]
    refine ⟨_, I, f C, W, ?_, hR2 I W hR1, kk C (by rw [hzz]; exact hO)⟩
    have hcopy : (Builtin.copy_ #[tD, tS] (opAt ops k).type #[.slice A' 0 c', .slice A2 ys.length c2]).run P W = .ok (.int .i64 ((min ys.length 0 : Nat) : Int)) W := by
      cases A' <;> simp [Builtin.copy_, run_underlying' hu1, Builtin.lenOf, hu2, storeCells, goInt] <;> simp at hfc <;> simp [hfc, storeCells]
    simp only [execOp, ho, resolve, invoke, builtin, Sem.run_bind, Sem.run_pure, Result.andThen_ok, List.map_toArray, List.map_cons, List.map_nil, ht.op hd, ht.op hs, hcopy]
  obtain ⟨a, ha, a', ha', hae⟩ := hV.2 0 (by omega) (by omega)
  rcases hO with ⟨rfl, _, _⟩ | ⟨g, cells, fz, rfl, rfl, hfz, hc1, hc2, hrx, hmx⟩
  · simp at hb2; omega
  cases ha
  have hae' : a' = ⟨g, b.toNat * d.n, none⟩ := by rw [hae]; have := addr_add g 0 (b.toNat * d.n); rw [add_zero'] at this; simpa using this
  subst ha' hae'
  have hfit : (b.toNat + min ys.length m) * d.n ≤ cells.size := by rw [hc2]; exact Nat.mul_le_mul_right _ (by omega)
  rw [Nat.add_mul] at hfit
  obtain ⟨R, hR1, hR2⟩ := hW.upd (hU [(g, .cells (putSeg cells (b.toNat * d.n) (l.take (min ys.length m * d.n))) e' fz)])
  obtain ⟨W', hs', hg, hne, ho1, ho2, ho3⟩ := store_block (P := P) (g := g) (t := e') (fz := fz) (l.take (min ys.length m * d.n)) (b.toNat * d.n) 0 cells W (hR1.mem (by simp)) hfz (by rw [hml]; omega) (fun v hv => hone v (List.mem_of_mem_take hv))
  have hget := putSeg_get (l.take (min ys.length m * d.n)) cells (b.toNat * d.n) (by rw [hml]; omega)
  refine ⟨_, I, _, W', ?_, hR2 I W' (Holds.set (A := []) hR1 _ (by simpa using hg) hne ho1 ho2 ho3), kk _ (.inr ⟨g, _, fz, rfl, rfl, by rw [FreeOf, putSeg_size]; exact hfz, by rw [hzlen]; exact hc1, by rw [putSeg_size]; exact hc2, ⟨fun i x hi => ?_⟩, by rw [hzlen]; exact hmx⟩)⟩
  · have hcopy : (Builtin.copy_ #[tD, tS] (opAt ops k).type #[.slice (some ⟨g, b.toNat * d.n, none⟩) m c', .slice A2 ys.length c2]).run P W = .ok (.int .i64 ((min ys.length m : Nat) : Int)) W' := by
      simp [Builtin.copy_, run_underlying' hu1, Builtin.lenOf, hm, hu2, hfc, hs', goInt]
    simp only [execOp, ho, resolve, invoke, builtin, Sem.run_bind, Sem.run_pure, Result.andThen_ok, List.map_toArray, List.map_cons, List.map_nil, ht.op hd, ht.op hs, hcopy]
  · rw [cpyv_get hb2] at hi
    by_cases h1 : i < b.toNat
    · rw [if_pos h1] at hi
      obtain ⟨q, hq, hr⟩ := hrx.at_ i x hi
      refine ⟨q, hq, fun j v hj => ?_⟩
      have hj' : j < d.n := by rw [← d.len hq]; exact (List.getElem?_eq_some_iff.1 hj).1
      have : (i + 1) * d.n ≤ b.toNat * d.n := Nat.mul_le_mul_right _ h1
      rw [Nat.add_mul, Nat.one_mul] at this
      simp only [hget]
      rw [if_neg (by omega)]
      exact hr j v hj
    · rw [if_neg h1] at hi
      have hbi : b.toNat * d.n ≤ i * d.n := Nat.mul_le_mul_right _ (by omega)
      have hsub : (i - b.toNat) * d.n = i * d.n - b.toNat * d.n := Nat.sub_mul _ _ _
      by_cases h2 : i - b.toNat < min ys.length m
      · rw [if_pos h2] at hi
        obtain ⟨q, hq, hr⟩ := hrow.at_ (i - b.toNat) x hi
        refine ⟨q, hq, fun j v hj => ?_⟩
        have hj' : j < d.n := by rw [← d.len hq]; exact (List.getElem?_eq_some_iff.1 hj).1
        have : (i - b.toNat + 1) * d.n ≤ min ys.length m * d.n := Nat.mul_le_mul_right _ h2
        rw [Nat.add_mul, Nat.one_mul] at this
        simp only [hget]
        rw [if_pos (by rw [hml]; omega), List.getElem?_take, if_pos (by omega), show i * d.n + j - b.toNat * d.n = (i - b.toNat) * d.n + j by omega]
        exact hr j v hj
      · rw [if_neg h2] at hi
        obtain ⟨q, hq, hr⟩ := hrx.at_ i x hi
        refine ⟨q, hq, fun j v hj => ?_⟩
        have : min ys.length m * d.n ≤ (i - b.toNat) * d.n := Nat.mul_le_mul_right _ (by omega)
        simp only [hget]
        rw [if_neg (by rw [hml]; omega)]
        exact hr j v hj
end
end Go.GB
