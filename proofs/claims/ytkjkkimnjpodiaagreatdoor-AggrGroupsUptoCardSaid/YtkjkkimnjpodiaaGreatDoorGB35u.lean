/- Deep rows whose elements are structs with one row of their own; rows put together anew of what a deep row holds. -/
import Derived.Test.YtkjkkimnjpodiaaGreatDoorGB7u
import Derived.Lib.Bytealg
import Derived.Laws.StructEq
import Derived.Scope
import Derived.Lib.SliceRun
import Derived.Lib.Overlaps
import Derived.Laws.MakeOwn
import Derived.Below
import Derived.Shelf.SlSortCmp.NoneTotal
import Derived.Lib.UnsafeStr
import Derived.WideLaws
import Derived.Shelf.Strconv.Itoa4
/- Frozen and lent memory; own blocks; results. -/
set_option linter.unusedVariables false
set_option linter.unusedSimpArgs false
namespace Go.GB
theorem Upd.set (g : Nat) (o o' : Obj) (B : Own) : Upd ((g, o) :: B) [(g, o)] [(g, o')] ((g, o') :: B) := Upd.head [(g, o)] [(g, o')] B
theorem Upd.rm1 (e : Nat × Obj) (B : Own) : Upd (e :: B) [e] [] B := Upd.head [e] [] B
theorem Upd.rmC (C B : Own) : Upd (C ++ B) C [] B := Upd.head C [] B
theorem Upd.selfC (C B : Own) : Upd (C ++ B) C C (C ++ B) := Upd.head C C B
theorem Upd.new (X B : Own) : Upd B [] X (X ++ B) := Upd.head [] X B
structure Tk (L C R : Own) : Prop where
  p : L.Perm (C ++ R)
theorem Tk.nil (L : Own) : Tk L [] L := ⟨.refl _⟩
theorem Tk.step {L C L1 D R : Own} (u : Upd L C [] L1) (h : Tk L1 D R) : Tk L (C ++ D) R := by
  obtain ⟨R', p1, p2⟩ := u.perm
  refine ⟨p1.trans ?_⟩
  rw [List.append_assoc]
  refine List.Perm.append_left C ?_
  exact (by simpa using p2.symm : R'.Perm L1).trans h.p
def Has (J : Imm) (C : Own) : Prop := ∀ p ∈ C, J.h p.1 = some p.2
theorem Has.left {J : Imm} {C D : Own} (h : Has J (C ++ D)) : Has J C := fun p hp => h p (List.mem_append_left _ hp)
theorem Has.right {J : Imm} {C D : Own} (h : Has J (C ++ D)) : Has J D := fun p hp => h p (List.mem_append_right _ hp)
theorem Has.mono {I J : Imm} {C : Own} (h : Has I C) (hI : I ≤ J) : Has J C := fun p hp => hI.h _ _ (h p hp)
theorem OwnS.rest {α : Type} {d : Kd α} {e : TypeId} {I J : Imm} {A : Option Addr} {c : Nat} {xs : List α} {C : Own} (h : OwnS d e I A c xs C) (hI : I ≤ J) (hC : Has J C) : RepS d J A c xs := by
  rcases h with ⟨rfl, rfl, rfl, rfl⟩ | ⟨g, cells, fz, rfl, rfl, _, h4, h5, h6, hm⟩
  · exact ⟨Nat.le_refl _, by simp [maxLen'], fun i x h => by simp at h⟩
  · refine ⟨h4, hm, fun i x hx => ?_⟩
    obtain ⟨l, hl, hr⟩ := h6.at_ i x hx
    refine ⟨_, l, rfl, d.mono hI hl, fun j v hj => ?_⟩
    have hb : J.h g = some (.cells cells e fz) := hC (g, Obj.cells cells e fz) (by simp)
    have hadd : ((⟨g, 0, none⟩ : Addr).add (i * d.n)).add j = ⟨g, i * d.n + j, none⟩ := by
      rw [add_add]; unfold Addr.add; split
      · rename_i h; rw [h]
      · simp
    rw [hadd]
    simp only [Imm.cell, hb]
    exact hr j v hj
theorem runAt_blk {J : Imm} {g : Nat} {cs : Array Value} {T : TypeId} {fz : Nat × Nat} (h : J.h g = some (.cells cs T fz)) : RunAt J ⟨g, 0, none⟩ cs.toList := fun j v hj => by
  have hadd : (⟨g, 0, none⟩ : Addr).add j = ⟨g, j, none⟩ := by unfold Addr.add; split <;> simp_all
  rw [hadd]
  simp only [Imm.cell, h]
  simpa using hj
theorem Has.blk {J : Imm} {g : Nat} {cs : Array Value} {T : TypeId} {fz : Nat × Nat} {D : Own} (h : Has J ((g, .cells cs T fz) :: D)) : RunAt J ⟨g, 0, none⟩ cs.toList := runAt_blk (h (g, .cells cs T fz) (by simp))
theorem Has.tail {J : Imm} {e : Nat × Obj} {D : Own} (h : Has J (e :: D)) : Has J D := fun p hp => h p (by simp [hp])
theorem Holds.take {I : Imm} {L C R : Own} {W : World} (h : Holds I L W) (t : Tk L C R) : Holds (I.adds C) R W ∧ I ≤ I.adds C ∧ Has (I.adds C) C := by
  have h1 := h.perm t.p
  have h2 := h1.freeze
  have hnd := h1.nd
  rw [List.map_append, List.nodup_append] at hnd
  exact ⟨h2.1, h2.2, fun p hp => Imm.adds_at hnd.1 hp⟩
theorem Holds.back {I J : Imm} {L C R : Own} {W W' : World} (h : Holds I L W) (t : Tk L C R) (hI : I ≤ J) (hC : Has J C) (h' : Holds J R W') : Holds I L W' := by
  have h1 := h.perm t.p
  refine Holds.perm ⟨fun b o hb => h'.imm b o (hI.h b o hb), fun p hp => ?_, h1.nd, h1.dj, by rw [h'.os, hI.os], by rw [h'.tape, hI.tape], by rw [h'.out, hI.out], by rw [← hI.dr]; exact h'.dr⟩ t.p.symm
  rcases List.mem_append.1 hp with hp | hp
  · exact h'.imm _ _ (hC p hp)
  · exact h'.own p hp
section
variable {P : Program} {c : Code} {ops : Array Oper} {k N : Nat} {K : KV} {I : Imm} {L C R : Own} {T : TPost} {Q : Post}
theorem gl_rest (t : Tk L C R) (kk : ∀ J, I ≤ J → Has J C → GLk P ops k N K J R T) : GLk P ops k N K I L T := fun tm ht W hW =>
  let ⟨h1, h2, h3⟩ := hW.take t
  kk _ h2 h3 tm ht W h1
theorem gk_rest {M : Md} (t : Tk L C R) (kk : ∀ J, I ≤ J → Has J C → GCk M c N K J R Q) : GCk M c N K I L Q := fun tm ht W hW =>
  let ⟨h1, h2, h3⟩ := hW.take t
  kk _ h2 h3 tm ht W h1
theorem gl_callB {f : FuncId} {args : Array Value} {r : Value} (t : Tk L C R) (h : callKV P ops k N K = some (f, args))
    (hc : ∀ J, I ≤ J → Has J C → CallsTo P f args J R (fun v I' L' => v = r ∧ R = L'))
    (kk : GLk P ops (k + 1) N (kvPut K (opAt ops k).dst r) I L T) : GLk P ops k N K I L T := by
  refine gl_call (R := fun v I' L' => v = r ∧ I' = I ∧ L' = L) h (fun W hW => ?_) (by rintro v I' L' _ ⟨rfl, rfl, rfl⟩; exact kk)
  obtain ⟨h1, h2, h3⟩ := hW.take t
  refine (hc _ h2 h3 W h1).mono ?_
  rintro e W' ⟨v, I', L', rfl, hI, hh, rfl, rfl⟩
  exact ⟨_, I, L, rfl, Imm.refl I, hW.back t (Imm.trans h2 hI) (h3.mono hI) hh, rfl, rfl, rfl⟩
theorem gl_callQ {f : FuncId} {args : Array Value} {r : Value} (h : callKV P ops k N K = some (f, args)) (hc : CallsTo P f args I L (fun v I' L' => v = r ∧ L = L'))
    (kk : GLk P ops (k + 1) N (kvPut K (opAt ops k).dst r) I L T) : GLk P ops k N K I L T :=
  gl_call h hc (by rintro v I' L' hI ⟨rfl, rfl⟩; exact gl_conseq (fun W h => h.imm_le hI) kk)
theorem gl_callvQ {fv : Value} {args : List Value} {r : Value} (h : callvKV ops k N K = some (fv, args)) (hc : CallsV P fv args I L (fun v I' L' => v = r ∧ L = L'))
    (kk : GLk P ops (k + 1) N (kvPut K (opAt ops k).dst r) I L T) : GLk P ops k N K I L T :=
  gl_callv h hc (by rintro v I' L' hI ⟨rfl, rfl⟩; exact gl_conseq (fun W h => h.imm_le hI) kk)
theorem RepS.ixAt {α : Type} {d : Kd α} {A : Option Addr} {c : Nat} {l : List α} {x : α} {i : Int} (hx : ix l i = some x) (hl : RepS d I A c l) : ∃ p cs, d.R I x cs ∧ RunAt I p cs ∧ ∃ a, A = some a ∧ p = a.add (i.toNat * d.n) := by
  obtain ⟨h0, h1, h2⟩ := ix_some hx
  obtain ⟨a, cs, rfl, hR, hr⟩ := hl.at_ _ _ h2
  exact ⟨_, cs, hR, hr, a, rfl, rfl⟩
theorem gl_indexAddrF {n : Nat} {T' e : TypeId} {xs xi : Operand} {A : Option Addr} {c len : Nat} {p : Addr} {kd : IntKind} {i : Int} (hA : ∃ a, A = some a ∧ p = a.add (i.toNat * n)) (h0 : 0 ≤ i) (h1 : i < (len : Int))
    (ho : (opAt ops k).op = .indexAddr T' xs xi) (h : readyKV ops k N K = true) (hs : kvOp K xs = some (.slice A len c)) (hi : kvOp K xi = some (.int kd i)) (hu : sliceElem P T' = some (e, n))
    (kk : GLk P ops (k + 1) N (kvPut K (opAt ops k).dst (.pointer (some p))) I L T) : GLk P ops k N K I L T := by
  obtain ⟨a, rfl, rfl⟩ := hA
  obtain ⟨hu1, hu2⟩ := sliceElem_spec hu
  refine gl_step h (fun t ht W hW => ?_) kk
  simp [execOp, ho, ht.op hs, ht.op hi, Instr.indexAt, asIntOf, run_underlying' hu1, h0, h1, hu2]
end
section
variable {K : KV} {I I0 : Imm} {L L0 : Own} {D : Dr} {s : List (Nat × Bool)}
end
end Go.GB
/- Calls of functions without a body; structs that are compared; labels and scopes; slices.Clone. -/
set_option linter.unusedVariables false
set_option linter.unusedSimpArgs false
namespace Go.GB
section
variable {P : Program} {c : Code} {ops : Array Oper} {k N : Nat} {K : KV} {I : Imm} {L : Own} {T : TPost} {Q : Post}
def calleeFn (K : KV) (o : Oper) : Option (FuncId × List Value) := match o.op with
  | .call c => match c.callee with
    | .value x => match kvOp K x, kvOps K c.args.toList with
      | some (.func (.func f) a b), some l => some (f, (a ++ l.toArray ++ b).toList)
      | _, _ => none
    | _ => none
  | _ => none
theorem gl_extern {f : FuncId} {l : List Value} {v : Value} (h : readyKV ops k N K = true) (hc : calleeFn K (opAt ops k) = some (f, l)) (hr : ∀ W, Holds I L W → (callFunc f l.toArray).run P W = .ok (.value v) W)
    (kk : GLk P ops (k + 1) N (kvPut K (opAt ops k).dst v) I L T) : GLk P ops k N K I L T := by
  refine gl_step h (fun t ht W hW => ?_) kk
  unfold calleeFn at hc
  split at hc <;> try (cases hc; done)
  rename_i c ho
  split at hc <;> try (cases hc; done)
  rename_i x hx
  split at hc <;> try (cases hc; done)
  rename_i g a b l' hv hl
  simp only [Option.some.injEq, Prod.mk.injEq] at hc
  obtain ⟨rfl, rfl⟩ := hc
  have hargs : c.args.map (Act.mk t []).eval = l'.toArray := by
    have := kvOps_map ht hl
    rw [← Array.toList_inj, Array.toList_map]; exact this
  have := hr W hW
  simp only [execOp, ho, resolve, hx, ht.op hv, Deferred.ofValue, hargs, Sem.run_bind, Sem.run_pure, Result.andThen_ok, invoke]
  have e1 : (a ++ l'.toArray ++ b).toList.toArray = a ++ l'.toArray ++ b := by simp
  rw [e1] at this
  exact this
theorem gl_cmpstring {f : FuncId} {fn : Func} {a b : ByteArray} (hf : P.funcs[f]? = some fn) (h1 : (fn.name == "runtime.NumGoroutine") = false) (h2 : fn.body.isNone = true) (h3 : Extern.findNext fn = none) (h4 : Extern.find fn = some Extern.BytealgCompare.compare)
    (h : readyKV ops k N K = true) (hc : calleeFn K (opAt ops k) = some (f, [.string a, .string b]))
    (kk : GLk P ops (k + 1) N (kvPut K (opAt ops k).dst (.int .i64 (Lib.compareBytes a.data.toList b.data.toList))) I L T) : GLk P ops k N K I L T :=
  gl_extern h hc (fun W _ => by rw [run_callFunc_extern hf h1 h2 h3 h4, Lib.run_compareString]; rfl) kk
theorem gl_buildSlice0 {T' e n : Nat} (ho : (opAt ops k).op = .buildSlice T' 0 #[]) (h : readyKV ops k N K = true) (he : sliceElem P T' = some (e, n))
    (kk : ∀ g, GLk P ops (k + 1) N (kvPut K (opAt ops k).dst (.slice (some ⟨g, 0, none⟩) 0 0)) I ((g, .cells #[] e) :: L) T) : GLk P ops k N K I L T := by
  refine gl_gen h fun t ht W hW => ⟨_, I, _, _, ?_, hW.new (.cells #[] e), kk W.heap.size⟩
  obtain ⟨hu1, hu2⟩ := sliceElem_spec he
  simp [execOp, ho, Instr.buildSlice, run_underlying' hu1, hu2, Instr.fill, newRow, show (Array.map (fun _ : Nat => (default : Value)) (Array.range 0)) = #[] from by simp]
theorem OwnS.empty {α : Type} (d : Kd α) (e : TypeId) (I : Imm) (g : Nat) : OwnS d e I (some ⟨g, 0, none⟩) 0 ([] : List α) [(g, .cells #[] e)] :=
  .inr ⟨g, #[], (0, 0), rfl, rfl, FreeOf.zero _, by simp, by simp, ⟨fun i x h => by simp at h⟩, by simp [maxLen']⟩
def isSliceT (P : Program) (t : TypeId) : Bool := match P.underlying t with | some (.slice _) => true | _ => false
theorem gl_eqNil {A : Option Addr} {t t' : TypeId} {x y : Operand} {len c : Nat} {a b : Nat} (ho : (opAt ops k).op = .binOp .eql t x y t') (h : readyKV ops k N K = true)
    (hx : kvOp K x = some (.slice A len c)) (hy : kvOp K y = some (.slice none a b)) (hu : isSliceT P t = true)
    (kk : GLk P ops (k + 1) N (kvPut K (opAt ops k).dst (.bool A.isNone)) I L T) : GLk P ops k N K I L T := by
  refine gl_step h (fun tm ht W hW => ?_) kk
  unfold isSliceT at hu
  split at hu <;> try (cases hu; done)
  rename_i e hu1
  have h2 : (eqGuard .eql t x y (.slice A len c) (.slice none a b)).run P W = .ok () W := by simp [eqGuard]
  have h3 := Lib.run_eql_slice_nil (P := P) W t e A len c a b hu1
  simp only [execOp, ho, ht.op hx, ht.op hy, Sem.run_bind, h2, h3, Result.andThen_ok, Sem.run_pure]
theorem RepS.isNil {α : Type} {d : Kd α} {A : Option Addr} {c : Nat} {xs : List α} (h : RepS d I A c xs) (hA : A.isNone = true) : xs = [] := by
  cases xs with
  | nil => rfl
  | cons x xs =>
    obtain ⟨a, cs, rfl, _⟩ := h.at_ 0 x rfl
    cases hA
theorem clone_nil {α : Type} {xs : List α} {r : List α} (h : (Option.bind (app ([] : List α) xs) fun zs => some zs) = some r) (hx : xs = []) : some ([] : List α) = some r := by
  subst hx
  exact h
end
end Go.GB
/- Arrays that stay: tables. -/
set_option linter.unusedVariables false
set_option linter.unusedSimpArgs false
namespace Go.GB
section
variable {P : Program} {ops : Array Oper} {k N : Nat} {K : KV} {I : Imm} {L : Own} {T : TPost}
end
end Go.GB
/- Elements of owned rows that are stored; results in cells at rest. -/
set_option linter.unusedVariables false
set_option linter.unusedSimpArgs false
namespace Go.GB
def putL : List Value → Nat → List Value → List Value
  | [], _, _ => []
  | c :: cs, o + 1, vs => c :: putL cs o vs
  | c :: cs, 0, [] => c :: cs
  | _ :: cs, 0, v :: vs => v :: putL cs 0 vs
theorem putL_get : ∀ (cs : List Value) (o : Nat) (vs : List Value), o + vs.length ≤ cs.length → ∀ j, (putL cs o vs)[j]? = if o ≤ j ∧ j < o + vs.length then vs[j - o]? else cs[j]?
  | [], o, vs, h, j => by
    have : vs = [] := List.length_eq_zero_iff.1 (by simp only [List.length_nil] at h; omega)
    subst this
    rw [if_neg (by simp)]; rfl
  | c :: cs, o + 1, vs, h, j => by
    simp only [List.length_cons] at h
    cases j with
    | zero => rw [if_neg (by omega)]; rfl
    | succ j =>
      simp only [putL, List.getElem?_cons_succ]
      rw [putL_get cs o vs (by omega) j]
      by_cases hj : o ≤ j ∧ j < o + vs.length
      · rw [if_pos hj, if_pos (by omega), show j + 1 - (o + 1) = j - o from by omega]
      · rw [if_neg hj, if_neg (by omega)]
  | c :: cs, 0, [], h, j => by rw [if_neg (by simp)]; rfl
  | c :: cs, 0, v :: vs, h, j => by
    simp only [List.length_cons] at h
    cases j with
    | zero => rw [if_pos (by simp)]; rfl
    | succ j =>
      simp only [putL, List.getElem?_cons_succ, List.length_cons]
      rw [putL_get cs 0 vs (by omega) j]
      by_cases hj : 0 ≤ j ∧ j < 0 + vs.length
      · rw [if_pos hj, if_pos (by omega)]; simp
      · rw [if_neg hj, if_neg (by omega)]
def lset {α : Type} (xs : List α) (i : Int) (y : α) : List α := xs.set i.toNat y
section
variable {P : Program} {ops : Array Oper} {k N : Nat} {K : KV} {I : Imm} {L : Own} {T : TPost}
theorem addr_add (g i j : Nat) : ((⟨g, 0, none⟩ : Addr).add i).add j = ⟨g, i + j, none⟩ := by
  rw [add_add]; unfold Addr.add; split
  · rename_i h; rw [h]
  · simp
theorem gl_indexAddrW {α : Type} {d : Kd α} {T' e e' : TypeId} {xs xi : Operand} {A : Option Addr} {c : Nat} {l : List α} {x : α} {kd : IntKind} {i : Int} {C : Own} (hx : ix l i = some x) (hO : OwnS d e' I A c l C) (hU : Upd L C C L)
    (ho : (opAt ops k).op = .indexAddr T' xs xi) (h : readyKV ops k N K = true) (hs : kvOp K xs = some (.slice A l.length c)) (hi : kvOp K xi = some (.int kd i)) (hu : sliceElem P T' = some (e, d.n))
    (kk : ∀ p cs, d.R I x cs → AtL I L p cs → (∃ g, A = some ⟨g, 0, none⟩ ∧ p = (⟨g, 0, none⟩ : Addr).add (i.toNat * d.n)) → GLk P ops (k + 1) N (kvPut K (opAt ops k).dst (.pointer (some p))) I L T) : GLk P ops k N K I L T := by
  obtain ⟨h0, h1, h2⟩ := ix_some hx
  obtain ⟨hu1, hu2⟩ := sliceElem_spec hu
  rcases hO with ⟨rfl, _, _⟩ | ⟨g, cells, fz, rfl, rfl, _, h4, h5, h6, _⟩
  · simp at h2
  · obtain ⟨cs, hR, hr⟩ := h6.at_ _ x h2
    refine gl_step h (fun t ht W hW => ?_) (kk ((⟨g, 0, none⟩ : Addr).add (i.toNat * d.n)) cs hR (fun W hW j v hj => ?_) ⟨g, rfl, rfl⟩)
    · simp [execOp, ho, ht.op hs, ht.op hi, Instr.indexAt, asIntOf, run_underlying' hu1, h0, h1, hu2]
    · obtain ⟨R, h1', _⟩ := hW.upd hU
      have hg : W.heap[g]? = some (.cells cells e' fz) := h1'.mem (by simp)
      rw [addr_add]
      simp only [World.cell?, hg]
      simpa using hr j v hj
def storeOk (P : Program) (T' : TypeId) (v : Value) : Bool := match aggInfo P T' with
  | some (_, n) => Nat.beq v.cells.size n && v.cells.toList.all Value.oneCell'
  | none => false
theorem gl_storeE {α : Type} {d : Kd α} {T' e : TypeId} {xp xv : Operand} {A : Option Addr} {c : Nat} {xs : List α} {x y : α} {i : Int} {off : Nat} {p : Addr} {v : Value} {C : Own} (f : Own → Own)
    (hx : ix xs i = some x) (hO : OwnS d e I A c xs C) (hU : ∀ X, Upd L C X (f X)) (hp : ∃ g, A = some ⟨g, 0, none⟩ ∧ p = (⟨g, 0, none⟩ : Addr).add (i.toNat * d.n))
    (ho : (opAt ops k).op = .store T' xp xv) (h : readyKV ops k N K = true) (hk : kvOp K xp = some (.pointer (some (p.add off)))) (hv : kvOp K xv = some v) (hs : storeOk P T' v = true) (hd : (opAt ops k).dst = none)
    (hy : ∀ cs, d.R I x cs → d.R I y (putL cs off v.cells.toList)) (hn : Nat.ble (off + v.cells.size) d.n = true)
    (kk : ∀ C', OwnS d e I A c (lset xs i y) C' → GLk P ops (k + 1) N K I (f C') T) : GLk P ops k N K I L T := by
  obtain ⟨h0, h1, h2⟩ := ix_some hx
  have hn' := Nat.le_of_ble_eq_true hn
  rcases hO with ⟨rfl, _, _⟩ | ⟨g, cells, fz, rfl, rfl, hf, h4, h5, h6, h7⟩
  · simp at h2
  · obtain ⟨g', hg', rfl⟩ := hp
    cases hg'
    refine gl_gen_skip h fun t ht W hW => ?_
    obtain ⟨R, hR1, hR2⟩ := hW.upd (hU [(g, Obj.cells (putSeg cells (i.toNat * d.n + off) v.cells.toList) e fz)])
    unfold storeOk at hs
    split at hs <;> try (cases hs; done)
    rename_i b n hT
    simp only [Bool.and_eq_true, List.all_eq_true] at hs
    have hsz : v.cells.size = n := Nat.eq_of_beq_eq_true hs.1
    have hlen : i.toNat < xs.length := (List.getElem?_eq_some_iff.1 h2).1
    have hle : i.toNat * d.n + d.n ≤ c * d.n := by rw [← Nat.succ_mul]; exact Nat.mul_le_mul_right _ (by omega)
    have hfit : i.toNat * d.n + off + 0 + v.cells.toList.length ≤ cells.size := by rw [Array.length_toList]; omega
    obtain ⟨W', hs', hg, hne, ho1, ho2, ho3⟩ := store_block (P := P) (g := g) (t := e) (fz := fz) v.cells.toList (i.toNat * d.n + off) 0 cells W (hR1.mem (by simp)) hf hfit hs.2
    refine ⟨I, f [(g, Obj.cells (putSeg cells (i.toNat * d.n + off) v.cells.toList) e fz)], W', ?_, hR2 I W' ?_, ?_⟩
    · rw [addr_add] at hk
      simp [execOp, ho, ht.op hk, ht.op hv, Instr.storeAt, Instr.sureAddr, storeVar, (aggInfo_spec hT).2, hsz, hs']
    · exact Holds.set (A := []) hR1 _ (by simpa using hg) hne ho1 ho2 ho3
    · rw [hd]
      refine kk _ (.inr ⟨g, _, fz, rfl, rfl, by rw [FreeOf, putSeg_size]; exact hf, by rw [lset, List.length_set]; exact h4, by rw [putSeg_size]; exact h5, ⟨fun j z hz => ?_⟩, by rw [lset, List.length_set]; exact h7⟩)
      unfold lset at hz
      rw [List.getElem?_set] at hz
      have hget := putSeg_get v.cells.toList cells (i.toNat * d.n + off) (by omega)
      by_cases hj : i.toNat = j
      · subst hj
        rw [if_pos rfl, if_pos hlen] at hz
        cases hz
        obtain ⟨cs, hR, hr⟩ := h6.at_ _ x h2
        have hcl := d.len hR
        refine ⟨_, hy cs hR, fun q u hq => ?_⟩
        rw [putL_get cs off _ (by rw [Array.length_toList, hcl]; exact hn')] at hq
        rw [hget]
        by_cases hq' : off ≤ q ∧ q < off + v.cells.toList.length
        · rw [if_pos hq'] at hq
          rw [if_pos (by omega), show i.toNat * d.n + q - (i.toNat * d.n + off) = q - off from by omega]; exact hq
        · rw [if_neg hq'] at hq
          rw [if_neg (by omega)]; exact hr q u hq
      · rw [if_neg hj] at hz
        obtain ⟨cs, hR, hr⟩ := h6.at_ _ z hz
        have hcl := d.len hR
        refine ⟨cs, hR, fun q u hq => ?_⟩
        have hq' : q < d.n := by rw [← hcl]; exact (List.getElem?_eq_some_iff.1 hq).1
        rw [hget, if_neg ?_]
        · exact hr q u hq
        · rw [Array.length_toList]
          rintro ⟨ha, hb⟩
          rcases Nat.lt_or_gt_of_ne hj with hlt | hlt
          · have : (i.toNat + 1) * d.n ≤ j * d.n := Nat.mul_le_mul_right _ hlt
            rw [Nat.add_mul, Nat.one_mul] at this; omega
          · have : (j + 1) * d.n ≤ i.toNat * d.n := Nat.mul_le_mul_right _ hlt
            rw [Nat.add_mul, Nat.one_mul] at this; omega
end
end Go.GB
/- What slices.Insert needs: headers, copies, rows that grow by zeros, rows that do not overlap. -/
set_option linter.unusedVariables false
set_option linter.unusedSimpArgs false
namespace Go.GB
theorem wrap64 {x : Int} (h : -9223372036854775808 ≤ x) (h' : x ≤ 9223372036854775807) : IntKind.wrap .i64 x = x := by
  unfold IntKind.wrap
  simp [IntKind.bits, IntKind.signed]
  omega
theorem OwnS.lenc {α : Type} {d : Kd α} {e : TypeId} {I : Imm} {A : Option Addr} {c : Nat} {xs : List α} {C : Own} (h : OwnS d e I A c xs C) : xs.length ≤ c := by
  rcases h with ⟨rfl, rfl, _⟩ | ⟨g, cells, fz, _, _, _, h4, _⟩
  · exact Nat.le_refl _
  · exact h4
section
variable {P : Program} {ops : Array Oper} {k N : Nat} {K : KV} {I : Imm} {L : Own} {T : TPost}
theorem gl_sliceV {T' e n : Nat} {xs : Operand} {lo hi : Option Operand} {A : Option Addr} {len c : Nat} {a b : Int} (h0 : 0 ≤ a) (h1 : a ≤ b) (h2 : b ≤ (c : Int))
    (ho : (opAt ops k).op = .slice T' xs lo hi none) (h : readyKV ops k N K = true) (hs : kvOp K xs = some (.slice A len c)) (hu : sliceElem P T' = some (e, n))
    (hl : kvBound K lo 0 = some a) (hh : kvBound K hi len = some b) {v : Value} (hv : Value.slice (if c = a.toNat then A else A.map (·.add (a.toNat * n))) (b.toNat - a.toNat) (c - a.toNat) = v)
    (kk : GLk P ops (k + 1) N (kvPut K (opAt ops k).dst v) I L T) : GLk P ops k N K I L T := by
  subst hv
  obtain ⟨hu1, hu2⟩ := sliceElem_spec hu
  refine gl_step h (fun t ht W hW => ?_) kk
  have e1 : (a.toNat : Int) = a := by omega
  have e2 : (b.toNat : Int) = b := by omega
  rcases kvBound_spec hl with ⟨rfl, rfl⟩ | ⟨x, kx, rfl, hx'⟩
  · rcases kvBound_spec hh with ⟨rfl, rfl⟩ | ⟨y, ky, rfl, hy⟩
    · simp [execOp, ho, ht.op hs, Instr.sliceAt, Instr.slice, run_underlying' hu1, Instr.sliceBounds, hu2]
    · simp [execOp, ho, ht.op hs, ht.op hy, Instr.sliceAt, Instr.slice, run_underlying' hu1, Instr.sliceBounds, Instr.sliceBound, asIntOf, hu2, show 0 ≤ b by omega, h2]
  · rcases kvBound_spec hh with ⟨rfl, rfl⟩ | ⟨y, ky, rfl, hy⟩
    · simp [execOp, ho, ht.op hs, ht.op hx', Instr.sliceAt, Instr.slice, run_underlying' hu1, Instr.sliceBounds, Instr.sliceBound, asIntOf, hu2, h0, h1]
    · simp [execOp, ho, ht.op hs, ht.op hx', ht.op hy, Instr.sliceAt, Instr.slice, run_underlying' hu1, Instr.sliceBounds, Instr.sliceBound, asIntOf, hu2, show 0 ≤ b by omega, h2, e2, h0, h1]
end
end Go.GB
/- Strings put together; division. -/
set_option linter.unusedVariables false
set_option linter.unusedSimpArgs false
namespace Go.GB
section
variable {P : Program} {ops : Array Oper} {k N : Nat} {K : KV} {I : Imm} {L : Own} {T : TPost}
end
end Go.GB
/- Rows that are made; copies into rows; the head of a row. -/
set_option linter.unusedVariables false
set_option linter.unusedSimpArgs false
namespace Go.GB
def mkrow {α : Type} (z : α) (n c : Int) : Option (List α) := if 0 ≤ n ∧ n ≤ c ∧ c ≤ 2147483648 then some (List.replicate n.toNat z) else none
theorem mkrow_some {α : Type} {z : α} {n c : Int} {xs : List α} (h : mkrow z n c = some xs) : 0 ≤ n ∧ n ≤ c ∧ c ≤ 2147483648 ∧ xs = List.replicate n.toNat z := by
  unfold mkrow at h
  split at h
  · rename_i hc; cases h; exact ⟨hc.1, hc.2.1, hc.2.2, rfl⟩
  · cases h
section
variable {P : Program} {ops : Array Oper} {k N : Nat} {K : KV} {I : Imm} {L : Own} {T : TPost}
theorem gl_makeSlice {α : Type} {d : Kd α} {T' e : TypeId} {lx cx : Operand} {n c : Int} {kl kc : IntKind} {z : α} {zc : Array Value} {xs : List α} (hx : mkrow z n c = some xs)
    (ho : (opAt ops k).op = .makeSlice T' lx cx) (h : readyKV ops k N K = true) (hl : kvOp K lx = some (.int kl n)) (hc : kvOp K cx = some (.int kc c)) (he : sliceElem P T' = some (e, d.n)) (hinfo : elemInfo P e d.n = true)
    (hz : zeroCells' P e = some zc) (hR : d.R I z zc.toList)
    (kk : ∀ A C, OwnS d e I A c.toNat xs C → GLk P ops (k + 1) N (kvPut K (opAt ops k).dst (.slice A xs.length c.toNat)) I (C ++ L) T) : GLk P ops k N K I L T := by
  obtain ⟨h0, h1, h2, rfl⟩ := mkrow_some hx
  obtain ⟨hu1, hu2⟩ := sliceElem_spec he
  obtain ⟨ti, zv, hti, hzv, hsz, hzs, hby, hb0, hn0⟩ := elemInfo_spec hinfo
  have hzc : zv.cells = zc := by
    unfold zeroCells' at hz
    rw [hti] at hz
    simp only [hzv, Option.some.injEq] at hz
    exact hz
  refine gl_gen h fun t ht W hW => ?_
  have hbytes : (ti.bytes : Int) * c ≤ 281474976710656 := by
    have : ti.bytes * c.toNat ≤ 8192 * 2147483648 := Nat.mul_le_mul hby (by omega)
    have h3 : ((ti.bytes * c.toNat : Nat) : Int) = (ti.bytes : Int) * c := by rw [Int.natCast_mul]; congr 1; omega
    omega
  have hr := run_make (P := P) W T' e ti zv hu1 hti hzv kl kc n c h0 h1 hbytes (by omega)
  rw [hsz, hzc] at hr
  refine ⟨_, I, [(W.heap.size, Obj.cells (madeCells zc (c.toNat * d.n)) e)] ++ L, _, ?_, hW.new (.cells (madeCells zc (c.toNat * d.n)) e), kk (some ⟨W.heap.size, 0, none⟩) _ (.inr ⟨W.heap.size, _, (0, 0), rfl, rfl, FreeOf.zero _, by rw [List.length_replicate]; omega, size_madeCells _ _, ⟨fun i x hi => ?_⟩, by rw [List.length_replicate]; unfold maxLen'; omega⟩)⟩
  · simp only [execOp, ho, ht.op hl, ht.op hc, hr, Sem.run_bind, Result.andThen_ok, Sem.run_pure, List.length_replicate]; rfl
  · rw [List.getElem?_replicate] at hi
    split at hi <;> try (cases hi; done)
    rename_i hlt
    cases hi
    refine ⟨zc.toList, hR, fun j v hj => ?_⟩
    have hzl : zc.size = d.n := by rw [← hzc]; exact hzs
    have hj' : j < d.n := by have := (List.getElem?_eq_some_iff.1 hj).1; rw [Array.length_toList] at this; omega
    have hb : i * d.n + j < c.toNat * d.n := by
      have : (i + 1) * d.n ≤ c.toNat * d.n := Nat.mul_le_mul_right _ (by omega)
      rw [Nat.add_mul, Nat.one_mul] at this; omega
    have hm : (i * d.n + j) % zc.size = j := by rw [hzl, Nat.mul_comm i, Nat.mul_add_mod]; exact Nat.mod_eq_of_lt hj'
    simp only [madeCells, Array.getElem?_map, Array.getElem?_range, hb, if_true, Option.map_some, hm]
    rw [Array.getElem?_toList] at hj
    rw [getElem!_def, hj]
theorem RowAt.take {α : Type} {d : Kd α} {I : Imm} {xs : List α} {cs : Nat → Option Value} (h : RowAt d I xs cs) (r : Nat) : RowAt d I (xs.take r) cs := ⟨fun i x hi => by
  rw [List.getElem?_take] at hi
  split at hi
  · exact h.at_ i x hi
  · cases hi⟩
theorem OwnS.take {α : Type} {d : Kd α} {e : TypeId} {A : Option Addr} {c : Nat} {xs : List α} {C : Own} (h : OwnS d e I A c xs C) (r : Nat) : OwnS d e I A c (xs.take r) C := by
  rcases h with ⟨rfl, rfl, rfl, rfl⟩ | ⟨g, cells, fz, rfl, rfl, h3, h4, h5, h6, h7⟩
  · exact .inl ⟨by simp, rfl, rfl, rfl⟩
  · exact .inr ⟨g, cells, fz, rfl, rfl, h3, by rw [List.length_take]; omega, h5, h6.take r, by rw [List.length_take]; omega⟩
theorem RepS.take {α : Type} {d : Kd α} {A : Option Addr} {c : Nat} {xs : List α} (h : RepS d I A c xs) (r : Nat) : RepS d I A c (xs.take r) := ⟨by have := h.le; rw [List.length_take]; omega, by have := h.max; rw [List.length_take]; omega, fun i x hi => by
  rw [List.getElem?_take] at hi
  split at hi
  · exact h.at_ i x hi
  · cases hi⟩
end
end Go.GB
/- Shifts and divisions by what is not known ahead. -/
set_option linter.unusedVariables false
set_option linter.unusedSimpArgs false
namespace Go.GB
section
variable {P : Program} {ops : Array Oper} {k N : Nat} {K : KV} {I : Imm} {L : Own} {T : TPost}
end
end Go.GB
/- Arrays that are compared. -/
set_option linter.unusedVariables false
set_option linter.unusedSimpArgs false
namespace Go.GB
section
variable {P : Program} {ops : Array Oper} {k N : Nat} {K : KV} {I : Imm} {L : Own} {T : TPost}
end
end Go.GB
/- The kit's contracts, brought to the form of the walks. -/
set_option linter.unusedVariables false
set_option linter.unusedSimpArgs false
namespace Go.GB
open Go.RowKit
theorem Holds.below {I : Imm} {L : Own} {W W' : World} (h : Holds I L W) (hb : Below W.heap.size W W') (hd : I.dr ≤ W'.drawn) : Holds I L W' :=
  ⟨fun b o hI => by have := h.imm b o hI; rw [hb.block b (lt_of_heap this)]; exact this, fun p hp => by have := h.own p hp; rw [hb.block p.1 (lt_of_heap this)]; exact this, h.nd, h.dj,
    by rw [hb.os, h.os], by rw [hb.tape, h.tape], by rw [hb.output, h.out], hd⟩
theorem callsTo_below {P : Program} {f : FuncId} {args : Array Value} {I : Imm} {L : Own} {v : Value} (h0 : I.dr = 0) (h : ∀ W, Holds I L W → Calls P f args W fun e W' => e = .returned v ∧ Below W.heap.size W W') :
    CallsTo P f args I L (fun v' I' L' => v' = v ∧ L = L') := fun W hW =>
  (h W hW).mono fun e W' ⟨he, hb⟩ => ⟨v, I, L, he, Imm.refl I, hW.below hb (by rw [h0]; exact Nat.zero_le _), rfl, rfl⟩
end Go.GB
/- How data that are read are bounded. -/
set_option linter.unusedVariables false
set_option linter.unusedSimpArgs false
namespace Go.GB
def wBool (b : Bool) (n : Nat) : Prop := True
def wStr (s : ByteArray) (n : Nat) : Prop := s.size + 1 ≤ n
def wSl {α : Type} (w : α → Nat → Prop) : List α → Nat → Prop
  | [], _ => True
  | x :: r, n => ∃ a b, w x a ∧ wSl w r b ∧ a + b ≤ n ∧ 1 ≤ a
theorem wSl.len {α : Type} {w : α → Nat → Prop} : ∀ {l : List α} {n : Nat}, wSl w l n → l.length ≤ n
  | [], n, _ => Nat.zero_le _
  | x :: r, n, ⟨a, b, _, h, hab, ha⟩ => by have := wSl.len h; simp; omega
theorem wSl.mem {α : Type} {w : α → Nat → Prop} {x : α} : ∀ {l : List α} {n : Nat}, wSl w l n → x ∈ l → ∃ a, w x a ∧ a ≤ n
  | [], _, _, h => by cases h
  | y :: r, n, ⟨a, b, hw, h, hab, _⟩, hx => by
    rcases List.mem_cons.1 hx with rfl | hx
    · exact ⟨a, hw, by omega⟩
    · obtain ⟨c, h1, h2⟩ := wSl.mem h hx
      exact ⟨c, h1, by omega⟩
theorem wSl.le {α : Type} {w : α → Nat → Prop} : ∀ {l : List α} {n m : Nat}, wSl w l n → n ≤ m → wSl w l m
  | [], _, _, _, _ => trivial
  | x :: r, n, m, ⟨a, b, h1, h2, h3, h4⟩, hm => ⟨a, b, h1, h2, by omega, h4⟩
end Go.GB
/- slices.SortFunc by the kit's contract, at an order that parts whatever two are not one. -/
set_option linter.unusedVariables false
set_option linter.unusedSimpArgs false
namespace Go.GB
open Go.RowKit
structure SortOk {α : Type} (Q : α → Prop) (cmp : α → α → Option Int) (k : α → α → Int) : Prop where
  eq : ∀ x y, Q x → Q y → cmp x y = some (k x y)
  swo : Go.Sort.SWO (fun x y => decide (k x y < 0))
  anti : ∀ x y, ¬ k x y < 0 → ¬ k y x < 0 → x = y
def SortR {α : Type} (Q : α → Prop) (cmp : α → α → Option Int) (xs r : List α) : Prop := (∀ x ∈ xs, Q x) ∧ ∃ k, SortOk Q cmp k ∧ r.Perm xs ∧ r.Pairwise (fun x y => ¬ k y x < 0)
theorem SortR.unique {α : Type} {Q : α → Prop} {cmp : α → α → Option Int} {xs r r' : List α} (h : SortR Q cmp xs r) (h' : SortR Q cmp xs r') : r = r' := by
  obtain ⟨hq, k, hk, hp, hs⟩ := h
  obtain ⟨_, k', hk', hp', hs'⟩ := h'
  have e : ∀ x y, x ∈ xs → y ∈ xs → k x y = k' x y := fun x y hx hy => by
    have := hk.eq x y (hq x hx) (hq y hy)
    rw [hk'.eq x y (hq x hx) (hq y hy)] at this
    exact (Option.some.inj this).symm
  refine List.Perm.eq_of_pairwise (le := fun x y => ¬ k y x < 0) ?_ hs ?_ (hp.trans hp'.symm)
  · intro a b _ _ h1 h2; exact hk.anti a b h2 h1
  · refine hs'.imp_of_mem fun {a b} ha hb hab => ?_
    rw [e b a (hp'.mem_iff.1 hb) (hp'.mem_iff.1 ha)]; exact hab
def snap (W : World) : Imm := ⟨fun b => W.heap[b]?, W.os, W.tape, W.output, W.drawn⟩
theorem snap_holds (W : World) : Holds (snap W) [] W := ⟨fun _ _ h => h, by simp, by simp, by simp, rfl, rfl, rfl, Nat.le_refl _⟩
theorem calls_snap {P : Program} {f : FuncId} {args : Array Value} {v : Value} {W : World} (h : CallsTo P f args (snap W) [] (fun v' I' L' => v' = v ∧ [] = L')) :
    Calls P f args W fun e W' => e = .returned v ∧ ∃ q os, W' = Go.Sort.grow (W.drewN q) os := by
  refine (h W (snap_holds W)).mono ?_
  rintro e W' ⟨v', I', L', rfl, hle, hh, rfl, rfl⟩
  refine ⟨rfl, W'.drawn - W.drawn, W'.heap.extract W.heap.size W'.heap.size, ?_⟩
  have h1 : ∀ b o, W.heap[b]? = some o → W'.heap[b]? = some o := fun b o hb => hh.imm b o (hle.h b o hb)
  have h2 : W'.os = W.os := hh.os.trans hle.os
  have h3 : W'.tape = W.tape := hh.tape.trans hle.tape
  have h4 : W'.output = W.output := hh.out.trans hle.out
  have h5 : W.drawn ≤ W'.drawn := by have := hh.dr; rw [hle.dr] at this; exact this
  have h6 : W'.heap = W.heap ++ W'.heap.extract W.heap.size W'.heap.size := by
    apply Array.ext_getElem?
    intro i
    rw [Array.getElem?_append]
    split
    · rename_i hi
      rw [h1 i _ (Array.getElem?_eq_getElem hi), Array.getElem?_eq_getElem hi]
    · rename_i hi
      rw [Array.getElem?_extract]
      split
      · congr 1; omega
      · rw [Array.getElem?_eq_none]; omega
  obtain ⟨hp, tp, dn, os', ot⟩ := W'
  simp only at h2 h3 h4 h5 h6
  subst h2 h3 h4
  simp only [Go.Sort.grow, World.drewN]
  rw [← h6, show W.drawn + (dn - W.drawn) = dn from by omega]
theorem Holds.grow {I : Imm} {L : Own} {W : World} (h : Holds I L W) (os : Array Obj) : Holds I L (Go.Sort.grow W os) := by
  have e : ∀ (b : Nat) (o : Obj), W.heap[b]? = some o → (Go.Sort.grow W os).heap[b]? = some o := fun b o hb => by
    show (W.heap ++ os)[b]? = _
    rw [Array.getElem?_append, if_pos (lt_of_heap hb)]; exact hb
  exact ⟨fun b o hI => e b o (h.imm b o hI), fun p hp => e p.1 p.2 (h.own p hp), h.nd, h.dj, h.os, h.tape, h.out, h.dr⟩
end Go.GB
/- Rows of the call's own: read while order is drawn; their tails; clear. -/
set_option linter.unusedVariables false
set_option linter.unusedSimpArgs false
namespace Go.GB
open Go.RowKit
theorem OwnS.ixAt {α : Type} {d : Kd α} {e : TypeId} {I : Imm} {A : Option Addr} {c : Nat} {l : List α} {x : α} {i : Int} {C : Own} (hx : ix l i = some x) (hO : OwnS d e I A c l C) :
    ∃ p cs, d.R I x cs ∧ (∀ I' L', (∀ q ∈ C, q ∈ L') → AtL I' L' p cs) ∧ ∃ a, A = some a ∧ p = a.add (i.toNat * d.n) := by
  obtain ⟨h0, h1, h2⟩ := ix_some hx
  rcases hO with ⟨rfl, _, _⟩ | ⟨g, cells, fz, rfl, rfl, _, h4, h5, h6, _⟩
  · simp at h2
  · obtain ⟨cs, hR, hr⟩ := h6.at_ _ x h2
    refine ⟨_, cs, hR, fun I' L' hC W hW j v hj => ?_, _, rfl, rfl⟩
    have hg : W.heap[g]? = some (.cells cells e fz) := hW.own (g, .cells cells e fz) (hC _ (by simp))
    rw [addr_add]
    simp only [World.cell?, hg]
    simpa using hr j v hj
def ViewS (n : Nat) (A A' : Option Addr) (k : Int) (m : Nat) : Prop := 0 ≤ k ∧ ∀ i : Int, 0 ≤ i → i < (m : Int) → ∃ a, A = some a ∧ ∃ a', A' = some a' ∧ a' = a.add (k.toNat * n)
def viewA (A : Option Addr) (b : Int) (n c : Nat) : Option Addr := if c = b.toNat then A else A.map (·.add (b.toNat * n))
theorem lx_take {α : Type} {l l' : List α} {b : Int} (hx : lx l 0 b = some l') : l' = l.take b.toNat := by
  unfold lx at hx
  split at hx <;> try (cases hx; done)
  simpa using hx.symm
theorem OwnS.view {α : Type} {d : Kd α} {e : TypeId} {I : Imm} {A : Option Addr} {c : Nat} {l l' : List α} {b : Int} {C : Own} (hx : lx l b (l.length : Int) = some l') (hO : OwnS d e I A c l C) : ViewS d.n A (viewA A b d.n c) b l'.length := by
  unfold lx at hx
  split at hx <;> try (cases hx; done)
  rename_i hb
  obtain ⟨h0, h1, h2⟩ := hb
  simp only [Option.some.injEq] at hx
  have hlc := hO.lenc
  have hlen : l'.length = l.length - b.toNat := by rw [← hx, List.length_drop, List.length_take]; omega
  refine ⟨h0, fun i hi0 hi1 => ?_⟩
  unfold viewA
  rw [if_neg (by omega)]
  rcases hO with ⟨rfl, _, _⟩ | ⟨g, cells, fz, rfl, rfl, _, h4, h5, h6, _⟩
  · have h3 : l'.length = 0 := by rw [hlen]; simp
    omega
  · exact ⟨_, rfl, _, rfl, rfl⟩
theorem OwnS.rdT {α : Type} {d : Kd α} {e : TypeId} {I : Imm} {A A' : Option Addr} {c : Nat} {l l' : List α} {b : Int} {C L : Own} (hx : lx l b (l.length : Int) = some l') (hV : ViewS d.n A A' b l'.length) (hO : OwnS d e I A c l C) (hU : Upd L C C L) : RdS d I L A' l' := by
  refine ⟨fun W hW => ?_⟩
  unfold lx at hx
  split at hx <;> try (cases hx; done)
  rename_i hb
  obtain ⟨h0, h1, h2⟩ := hb
  simp only [Option.some.injEq] at hx
  by_cases hne : l' = []
  · rw [hne]; exact (RdS.nil d I L A').rd W hW
  have hpos : 0 < l'.length := by cases l' with | nil => exact absurd rfl hne | cons _ _ => simp
  obtain ⟨a, ha, a', ha', hae⟩ := hV.2 0 (by omega) (by omega)
  rcases hO with ⟨rfl, _, _⟩ | ⟨g, cells, fz, rfl, rfl, _, h4, h5, h6, _⟩
  · rw [← hx] at hpos; simp at hpos
  · cases ha
    obtain ⟨R, h1', _⟩ := hW.upd hU
    have hg : W.heap[g]? = some (.cells cells e fz) := h1'.mem (by simp)
    have hcell : ∀ j, W.cell? ((⟨g, 0, none⟩ : Addr).add j) = cells[j]? := fun j => by
      have hadd : (⟨g, 0, none⟩ : Addr).add j = ⟨g, j, none⟩ := by unfold Addr.add; split <;> simp_all
      rw [hadd]; simp [World.cell?, hg]
    obtain ⟨ll, q1, q2, q3, q4⟩ := row_list (d := d) (I := I) a' W l' 0 (fun i y hy => by
      rw [← hx, List.getElem?_drop] at hy
      rw [List.getElem?_take] at hy
      split at hy <;> try (cases hy; done)
      obtain ⟨cs, hR, hr⟩ := h6.at_ _ y hy
      refine ⟨cs, hR, fun j v hj => ?_⟩
      have := hr j v hj
      rw [hae, Nat.zero_add, add_add, hcell, ← Nat.add_assoc, ← Nat.add_mul]
      exact this)
    exact ⟨ll, q1, q2, q3, fun _ => ⟨a', ha', fun j v hj => by have := q4 j v hj; simpa using this⟩⟩
theorem OwnS.head {α : Type} {d : Kd α} {e : TypeId} {I : Imm} {A : Option Addr} {c : Nat} {l l' : List α} {n : Nat} {C : Own} (hd : l' = l.take n) (h : OwnS d e I A c l C) : OwnS d e I A c l' C := by rw [hd]; exact h.take n
theorem RepS.head {α : Type} {d : Kd α} {I : Imm} {A : Option Addr} {c : Nat} {l l' : List α} {n : Nat} (hd : l' = l.take n) (h : RepS d I A c l) : RepS d I A c l' := by rw [hd]; exact h.take n
section
variable {P : Program} {ops : Array Oper} {k N : Nat} {K : KV} {I : Imm} {L : Own} {T : TPost}
theorem gl_sliceH {n : Nat} {α : Type} {T' e : TypeId} {xs : Operand} {lo hi : Option Operand} {A : Option Addr} {c : Nat} {l l' : List α} {b : Int} (hx : lx l 0 b = some l') (hlc : l.length ≤ c)
    (ho : (opAt ops k).op = .slice T' xs lo hi none) (h : readyKV ops k N K = true) (hs : kvOp K xs = some (.slice A l.length c)) (hu : sliceElem P T' = some (e, n))
    (hl : kvBound K lo 0 = some 0) (hh : kvBound K hi l.length = some b)
    (kk : GLk P ops (k + 1) N (kvPut K (opAt ops k).dst (.slice A l'.length c)) I L T) : GLk P ops k N K I L T := by
  unfold lx at hx
  split at hx <;> try (cases hx; done)
  rename_i hb
  obtain ⟨_, h1, h2⟩ := hb
  simp only [Option.some.injEq, Int.toNat_zero, List.drop_zero] at hx
  have hlen : l'.length = b.toNat := by rw [← hx, List.length_take]; omega
  refine gl_sliceV (n := n) (a := 0) (b := b) (by omega) h1 (by omega) ho h hs hu hl hh (v := .slice A l'.length c) ?_ kk
  by_cases hc : c = 0
  · rw [hc] at hlc ⊢
    simp [hlen]
  · simp [hc, hlen]
    cases A with
    | none => rfl
    | some a => simp [add_zero']
theorem gl_sliceT {n : Nat} {α : Type} {T' e : TypeId} {xs : Operand} {lo : Option Operand} {A : Option Addr} {c : Nat} {l l' : List α} {b : Int} (hx : lx l b (l.length : Int) = some l') (hlc : l.length ≤ c)
    (ho : (opAt ops k).op = .slice T' xs lo none none) (h : readyKV ops k N K = true) (hs : kvOp K xs = some (.slice A l.length c)) (hu : sliceElem P T' = some (e, n))
    (hl : kvBound K lo 0 = some b)
    (kk : GLk P ops (k + 1) N (kvPut K (opAt ops k).dst (.slice (viewA A b n c) l'.length (c - b.toNat))) I L T) : GLk P ops k N K I L T := by
  unfold lx at hx
  split at hx <;> try (cases hx; done)
  rename_i hb
  obtain ⟨h0, h1, h2⟩ := hb
  simp only [Option.some.injEq] at hx
  have hlen : l'.length = l.length - b.toNat := by rw [← hx, List.length_drop, List.length_take]; omega
  exact gl_sliceV (n := n) (a := b) (b := (l.length : Int)) h0 h1 (by omega) ho h hs hu hl rfl (v := .slice (viewA A b n c) l'.length (c - b.toNat)) (by rw [hlen]; simp [viewA]) kk
end
end Go.GB
/- Strings gone through rune by rune; heads of rows; what a builder holds. -/
set_option linter.unusedVariables false
set_option linter.unusedSimpArgs false
namespace Go.GB
open Go.RowKit
section
variable {P : Program} {ops : Array Oper} {k N : Nat} {K : KV} {I : Imm} {L : Own} {T : TPost}
end
def BldS (T e : TypeId) (I : Imm) (g : Nat) (xs : List Int) (B : Own) : Prop :=
  ∃ p A c C, (p = none ∨ p = some (⟨g, 0, none⟩ : Addr)) ∧ OwnS (Kd.int .u8) e I A c xs C ∧ B = (g, .cells #[.pointer p, .slice A xs.length c] T) :: C
theorem BldS.mono {T e : TypeId} {I J : Imm} {g : Nat} {xs : List Int} {B : Own} (h : BldS T e I g xs B) (hI : I ≤ J) : BldS T e J g xs B := by
  obtain ⟨p, A, c, C, h1, h2, h3⟩ := h
  exact ⟨p, A, c, C, h1, h2.mono hI, h3⟩
theorem BldS.new (T e : TypeId) (I : Imm) (g : Nat) : BldS T e I g [] [(g, .cells #[.pointer none, .slice none 0 0] T)] :=
  ⟨none, none, 0, [], .inl rfl, OwnS.nil _ _ _ _, rfl⟩
end Go.GB
/- Decimal numerals, by a number of rounds. -/
set_option linter.unusedVariables false
set_option linter.unusedSimpArgs false
namespace Go.GB
section
variable {P : Program} {c : Code} {N : Nat} {K : KV} {I : Imm} {L : Own} {Q : Post}
end
end Go.GB
/- Heads of rows of which more is known than they show; elements of owned rows that are stored to late; functions that call themselves. -/
set_option linter.unusedVariables false
set_option linter.unusedSimpArgs false
namespace Go.GB
open Go.RowKit
section
variable {P : Program} {ops : Array Oper} {k N : Nat} {K : KV} {I : Imm} {L : Own} {T : TPost}
end
theorem gl_kv {P : Program} {ops : Array Oper} {k N : Nat} {K K' : KV} {I : Imm} {L : Own} {T : TPost} (e : K = K') (h : GLk P ops k N K' I L T) : GLk P ops k N K I L T := by rw [e]; exact h
theorem OwnS.ixAtG {α : Type} {d : Kd α} {e : TypeId} {I : Imm} {A : Option Addr} {c : Nat} {l : List α} {x : α} {i : Int} {C : Own} (hx : ix l i = some x) (hO : OwnS d e I A c l C) :
    ∃ p cs, d.R I x cs ∧ (∀ I' L', (∀ q ∈ C, q ∈ L') → AtL I' L' p cs) ∧ (∃ a, A = some a ∧ p = a.add (i.toNat * d.n)) ∧ ∃ g, A = some ⟨g, 0, none⟩ ∧ p = (⟨g, 0, none⟩ : Addr).add (i.toNat * d.n) := by
  obtain ⟨p, cs, h1, h2, a, h3, h4⟩ := OwnS.ixAt hx hO
  refine ⟨p, cs, h1, h2, ⟨a, h3, h4⟩, ?_⟩
  rcases hO with ⟨_, _, _, h⟩ | ⟨g, cells, fz, rfl, rfl, _⟩
  · rw [h] at h3; cases h3
  · cases h3; exact ⟨g, rfl, h4⟩
theorem lset_length {α : Type} (l : List α) (i : Int) (y : α) : (lset l i y).length = l.length := by simp [lset]
def iterF {α β : Type} (F : (α → Option β) → α → Option β) : Nat → α → Option β
  | 0 => fun _ => none
  | n + 1 => F (iterF F n)
end Go.GB
/- Maps of the call's own: made, looked up, written. -/
set_option linter.unusedVariables false
set_option linter.unusedSimpArgs false
namespace Go.GB
structure Ky (κ : Type) where
  val : κ → Value
  beq : κ → κ → Bool
  desc : TypeDesc → Bool
  now : ∀ d, desc d = true → ∀ a b, Instr.sameNow d (val a) (val b) = some (beq a b)
  chk : ∀ (P : Program) (t : TypeId) (d : TypeDesc), P.underlying t = some d → desc d = true → ∀ (e : Bool) (a : κ) (W : World), (Instr.checkKey e 10000 t (val a)).run P W = .ok () W
  bits : ∀ a b, beq a b = true → Instr.sameBits 10000 (val b) (val a) = true
theorem checkKey_plain {P : Program} {t : TypeId} {d : TypeDesc} (ht : P.underlying t = some d) (hd : (match d with | .int _ | .string | .bool => true | _ => false) = true) (e : Bool) (v : Value) (n : Nat) (W : World) : (Instr.checkKey e (n + 1) t v).run P W = .ok () W := by
  cases d <;> simp_all [Instr.checkKey, run_underlying' ht]
theorem sameBits_str (n : Nat) (a b : ByteArray) : Instr.sameBits n (.string a) (.string b) = (a == b) := by cases n <;> rfl
theorem sameBits_int (n : Nat) (k : IntKind) (a b : Int) : Instr.sameBits n (.int k a) (.int k b) = (a == b) := by cases n <;> simp [Instr.sameBits]
def Ky.int (k : IntKind) : Ky Int where
  val := .int k
  beq := fun a b => a == b
  desc := fun d => match d with | .int _ => true | _ => false
  now := fun d hd a b => by cases d <;> simp_all [Instr.sameNow]
  chk := fun P t d ht hd e a W => checkKey_plain ht (by cases d <;> simp_all) e _ 9999 W
  bits := fun a b h => by simp only [beq_iff_eq] at h; subst h; rw [sameBits_int]; simp
theorem ba_beq {a b : ByteArray} : (a == b) = true ↔ a = b := by
  obtain ⟨x⟩ := a
  obtain ⟨y⟩ := b
  show (x == y) = true ↔ _
  simp
def Ky.str : Ky ByteArray where
  val := .string
  beq := fun a b => a == b
  desc := fun d => match d with | .string => true | _ => false
  now := fun d hd a b => by cases d <;> simp_all [Instr.sameNow]
  chk := fun P t d ht hd e a W => checkKey_plain ht (by cases d <;> simp_all) e _ 9999 W
  bits := fun a b h => by obtain rfl := ba_beq.1 h; rw [sameBits_str]; exact ba_beq.2 rfl
def mget {κ υ : Type} (ky : Ky κ) : List (κ × υ) → κ → Option υ
  | [], _ => none
  | (k', v) :: m, k => bif ky.beq k k' then some v else mget ky m k
def mput {κ υ : Type} (ky : Ky κ) : List (κ × υ) → κ → υ → List (κ × υ)
  | [], k, v => [(k, v)]
  | (k', v') :: m, k, v => bif ky.beq k k' then (k, v) :: m else (k', v') :: mput ky m k v
def valR {υ : Type} (d : Kd υ) (agg : Bool) (I : Imm) (v : υ) (u : Value) : Prop := bif agg then ∃ cs : List Value, u = .agg cs.toArray ∧ d.R I v cs else d.R I v [u]
theorem valR.mono {υ : Type} {d : Kd υ} {agg : Bool} {I J : Imm} {v : υ} {u : Value} (h : valR d agg I v u) (hI : I ≤ J) : valR d agg J v u := by
  unfold valR at *
  cases agg with
  | true => obtain ⟨cs, h1, h2⟩ := h; exact ⟨cs, h1, d.mono hI h2⟩
  | false => exact d.mono hI h
inductive EntsR {κ υ : Type} (ky : Ky κ) (V : υ → Value → Prop) : List (κ × υ) → List MapEntry → Prop
  | nil : EntsR ky V [] []
  | cons {k : κ} {v : υ} {m : List (κ × υ)} {e : MapEntry} {es : List MapEntry} : e.key = ky.val k → V v e.val → EntsR ky V m es → EntsR ky V ((k, v) :: m) (e :: es)
theorem EntsR.mono {κ υ : Type} {ky : Ky κ} {V V' : υ → Value → Prop} (hV : ∀ v u, V v u → V' v u) {m : List (κ × υ)} {es : List MapEntry} (h : EntsR ky V m es) : EntsR ky V' m es := by
  induction h with
  | nil => exact .nil
  | cons h1 h2 _ ih => exact .cons h1 (hV _ _ h2) ih
theorem EntsR.find {κ υ : Type} {ky : Ky κ} {V : υ → Value → Prop} {d : TypeDesc} (hd : ky.desc d = true) (k : κ) {m : List (κ × υ)} {es : List MapEntry} (h : EntsR ky V m es) : ∀ i : Nat,
    (mget ky m k = none ∧ Instr.findNow d (ky.val k) es i = some none ∧ ∀ v u b, V v u → EntsR ky V (mput ky m k v) (es ++ [{ key := ky.val k, val := u, born := b }])) ∨
    (∃ v j u e k', mget ky m k = some v ∧ Instr.findNow d (ky.val k) es i = some (some (i + j, u)) ∧ V v u ∧ es[j]? = some e ∧ e.key = ky.val k' ∧ ky.beq k k' = true ∧
      ∀ v' u', V v' u' → EntsR ky V (mput ky m k v') (es.set j { e with key := ky.val k, val := u' })) := by
  induction h with
  | nil => exact fun i => .inl ⟨rfl, rfl, fun v u b hv => .cons rfl hv .nil⟩
  | @cons k1 v1 m e es h1 h2 h3 ih =>
    intro i
    have hn := ky.now d hd k k1
    cases hb : ky.beq k k1 with
    | true =>
      rw [hb] at hn
      refine .inr ⟨v1, 0, e.val, e, k1, by simp [mget, hb], by simp [Instr.findNow, h1, hn], h2, rfl, h1, hb, fun v' u' hv => ?_⟩
      simp only [mput, hb, cond_true, List.set_cons_zero]
      exact .cons rfl hv h3
    | false =>
      rw [hb] at hn
      rcases ih (i + 1) with ⟨q1, q2, q3⟩ | ⟨v, j, u, e', k', q1, q2, q3, q4, q5, q6, q7⟩
      · refine .inl ⟨by simp [mget, hb, q1], by simp [Instr.findNow, h1, hn, q2], fun v u b hv => ?_⟩
        simp only [mput, hb, cond_false, List.cons_append]
        exact .cons h1 h2 (q3 v u b hv)
      · refine .inr ⟨v, j + 1, u, e', k', by simp [mget, hb, q1], ?_, q3, by simpa using q4, q5, q6, fun v' u' hv => ?_⟩
        · simp only [Instr.findNow, h1, hn, q2]; congr 3; omega
        · simp only [mput, hb, cond_false, List.set_cons_succ]
          exact .cons h1 h2 (q7 v' u' hv)
def OwnM {κ υ : Type} (ky : Ky κ) (d : Kd υ) (agg : Bool) (I : Imm) (g : Nat) (m : List (κ × υ)) (C : Own) : Prop := ∃ es clk, C = [(g, .map es clk)] ∧ EntsR ky (valR d agg I) m es.toList
theorem OwnM.mono {κ υ : Type} {ky : Ky κ} {d : Kd υ} {agg : Bool} {I J : Imm} {g : Nat} {m : List (κ × υ)} {C : Own} (h : OwnM ky d agg I g m C) (hI : I ≤ J) : OwnM ky d agg J g m C := by
  obtain ⟨es, clk, h1, h2⟩ := h
  exact ⟨es, clk, h1, h2.mono fun v u hv => hv.mono hI⟩
section
variable {P : Program} {ops : Array Oper} {k N : Nat} {K : KV} {I : Imm} {L : Own} {T : TPost}
theorem gl_makeMap {κ υ : Type} {ky : Ky κ} {d : Kd υ} {agg : Bool} {T' : TypeId} (ho : (opAt ops k).op = .makeMap T' none) (h : readyKV ops k N K = true)
    (kk : ∀ g C, OwnM ky d agg I g [] C → GLk P ops (k + 1) N (kvPut K (opAt ops k).dst (.map (some g))) I (C ++ L) T) : GLk P ops k N K I L T := by
  refine gl_gen h fun t ht W hW => ⟨_, I, _, _, ?_, hW.new (.map #[] 0), kk W.heap.size [(W.heap.size, .map #[] 0)] ⟨#[], 0, rfl, .nil⟩⟩
  simp [execOp, ho, Instr.makeMap]
def zeroV (P : Program) (T : TypeId) : Option Value := match P.info? T with
  | some i => i.zero
  | none => none
def mapDesc (P : Program) (T : TypeId) : Option (TypeId × TypeId × TypeDesc) := match P.underlying T with
  | some (.map a b) => match P.underlying a with
    | some d => some (a, b, d)
    | none => none
  | _ => none
theorem mapDesc_spec {T' a b : TypeId} {d : TypeDesc} (h : mapDesc P T' = some (a, b, d)) : P.underlying T' = some (.map a b) ∧ P.underlying a = some d := by
  unfold mapDesc at h
  cases h1 : P.underlying T' with
  | none => rw [h1] at h; cases h
  | some dd =>
    rw [h1] at h
    cases dd <;> try (cases h; done)
    rename_i a' b'
    simp only at h
    cases h2 : P.underlying a' with
    | none => rw [h2] at h; cases h
    | some d2 => rw [h2] at h; cases h; exact ⟨rfl, h2⟩
theorem run_getObj' {W : World} {g : Nat} {o : Obj} (h : W.heap[g]? = some o) (hc : ∀ c t f, o ≠ .cells c t f) : (getObj g).run P W = .ok o W := by
  cases o <;> simp_all [getObj, Sem.run]
theorem run_setObj' {W : World} {g : Nat} {o o' : Obj} (h : W.heap[g]? = some o) (hc : ∀ c t f, o ≠ .cells c t f) : (setObj g o').run P W = .ok () { W with heap := W.heap.setIfInBounds g o' } := by
  cases o <;> simp_all [setObj, Sem.run]
theorem run_findKey' {W : World} {kt : TypeId} {d : TypeDesc} {v : Value} {es : List MapEntry} {r : Option (Nat × Value)} (ht : P.underlying kt = some d) (hf : Instr.findNow d v es 0 = some r) : (Instr.findKey kt v es).run P W = .ok r W := by
  simp [Instr.findKey, run_underlying' ht, hf]
theorem gl_lookup {κ υ : Type} {ky : Ky κ} {d : Kd υ} {agg ok : Bool} {T' a b : TypeId} {ds : TypeDesc} {xm xk : Operand} {g : Nat} {m : List (κ × υ)} {C : Own} {x : κ} {z : υ} {uz : Value} (hO : OwnM ky d agg I g m C) (hC : ∀ q ∈ C, q ∈ L)
    (ho : (opAt ops k).op = .lookup T' xm xk ok) (h : readyKV ops k N K = true) (hm : kvOp K xm = some (.map (some g))) (hk : kvOp K xk = some (ky.val x)) (ht : mapDesc P T' = some (a, b, ds)) (hd : ky.desc ds = true)
    (hz : zeroV P b = some uz) (hzr : valR d agg I z uz)
    (kk : ∀ u, valR d agg I ((mget ky m x).getD z) u → GLk P ops (k + 1) N (kvPut K (opAt ops k).dst (bif ok then .tuple #[u, .bool (mget ky m x).isSome] else u)) I L T) : GLk P ops k N K I L T := by
  obtain ⟨es, clk, rfl, hE⟩ := hO
  obtain ⟨t1, t2⟩ := mapDesc_spec ht
  have hzv : ∀ W, (zeroValue b).run P W = .ok uz W := fun W => by
    unfold zeroV at hz
    split at hz
    · rename_i i hi; simp [zeroValue, typeInfo, hi, hz]
    · cases hz
  have hg : ∀ W, Holds I L W → W.heap[g]? = some (.map es clk) := fun W hW => hW.own (g, .map es clk) (hC _ (by simp))
  rcases hE.find hd x 0 with ⟨q1, q2, _⟩ | ⟨v, j, u, e, k', q1, q2, q3, _⟩
  · refine gl_step h (fun t hkt W hW => ?_) (kk uz (by rw [q1]; exact hzr))
    rw [q1]
    cases ok <;> simp [execOp, ho, hkt.op hm, hkt.op hk, Instr.lookup, run_underlying' t1, run_getObj' (hg W hW) (fun _ _ _ e => by cases e), ky.chk P a ds t2 hd, run_findKey' t2 q2, hzv]
  · refine gl_step h (fun t hkt W hW => ?_) (kk u (by rw [q1]; exact q3))
    rw [q1]
    cases ok <;> simp [execOp, ho, hkt.op hm, hkt.op hk, Instr.lookup, run_underlying' t1, run_getObj' (hg W hW) (fun _ _ _ e => by cases e), ky.chk P a ds t2 hd, run_findKey' t2 q2]
theorem Holds.setO {A L : Own} {g : Nat} {o : Obj} {W : World} (h : Holds I (A ++ (g, o) :: L) W) (o' : Obj) : Holds I (A ++ (g, o') :: L) { W with heap := W.heap.setIfInBounds g o' } := by
  have hlt : g < W.heap.size := lt_of_heap (h.own (g, o) (by simp))
  refine h.set o' ?_ (fun b hb => ?_) rfl rfl ⟨rfl, Nat.le_refl _⟩
  · simp [hlt]
  · simp only [Array.getElem?_setIfInBounds_ne (Ne.symm hb)]
theorem gl_mapUpdate {κ υ : Type} {ky : Ky κ} {d : Kd υ} {agg : Bool} {T' a b : TypeId} {ds : TypeDesc} {xm xk xv : Operand} {g : Nat} {m : List (κ × υ)} {C : Own} {x : κ} {v : υ} {u : Value} (f : Own → Own) (hO : OwnM ky d agg I g m C) (hU : ∀ X, Upd L C X (f X))
    (ho : (opAt ops k).op = .mapUpdate T' xm xk xv) (h : readyKV ops k N K = true) (hm : kvOp K xm = some (.map (some g))) (hk : kvOp K xk = some (ky.val x)) (hv : kvOp K xv = some u) (ht : mapDesc P T' = some (a, b, ds)) (hd : ky.desc ds = true)
    (hvr : valR d agg I v u) (hdst : (opAt ops k).dst = none)
    (kk : ∀ C', OwnM ky d agg I g (mput ky m x v) C' → GLk P ops (k + 1) N K I (f C') T) : GLk P ops k N K I L T := by
  obtain ⟨es, clk, rfl, hE⟩ := hO
  obtain ⟨t1, t2⟩ := mapDesc_spec ht
  refine gl_gen_skip h fun t hkt W hW => ?_
  rw [hdst]
  rcases hE.find hd x 0 with ⟨q1, q2, q3⟩ | ⟨v0, j, u0, e, k', q1, q2, q3, q4, q5, q6, q7⟩
  · obtain ⟨R, hR1, hR2⟩ := hW.upd (hU [(g, .map (es.push { key := ky.val x, val := u, born := clk }) (clk + 1))])
    have hg := hR1.own (g, .map es clk) (by simp)
    refine ⟨I, _, _, ?_, hR2 I _ (Holds.setO (A := []) hR1 (.map (es.push { key := ky.val x, val := u, born := clk }) (clk + 1))), kk _ ⟨_, _, rfl, by rw [Array.toList_push]; exact q3 v u clk hvr⟩⟩
    simp [execOp, ho, hkt.op hm, hkt.op hk, hkt.op hv, Instr.mapUpdate, run_underlying' t1, run_getObj' hg (fun _ _ _ e => by cases e), ky.chk P a ds t2 hd, run_findKey' t2 q2, run_setObj' hg (fun _ _ _ e => by cases e)]
  · obtain ⟨R, hR1, hR2⟩ := hW.upd (hU [(g, .map (es.modify j fun e => { e with key := ky.val x, val := u }) clk)])
    have hg := hR1.own (g, .map es clk) (by simp)
    have hj : es[j]? = some e := by rw [← q4]; simp
    have hjs : j < es.size := (Array.getElem?_eq_some_iff.1 hj).1
    have hl : (es.modify j fun e => { e with key := ky.val x, val := u }).toList = es.toList.set j { e with key := ky.val x, val := u } := by
      apply List.ext_getElem?
      intro i
      rw [Array.getElem?_toList, Array.getElem?_modify, List.getElem?_set]
      by_cases hij : j = i
      · subst hij
        have hje : es[j] = e := Option.some.inj ((Array.getElem?_eq_getElem hjs).symm.trans hj)
        simp [hj, hjs, hje]
      · simp [hij]
    refine ⟨I, _, _, ?_, hR2 I _ (Holds.setO (A := []) hR1 _), kk _ ⟨_, _, rfl, by rw [hl]; exact q7 v u hvr⟩⟩
    have hks : (Instr.keyThatStays (((es[j]?).map (·.key)).getD (ky.val x)) (ky.val x)).run P W = .ok (ky.val x) W := by
      rw [hj]
      simp only [Option.map_some, Option.getD_some, q5]
      simp [Instr.keyThatStays, ky.bits x k' q6]
    rw [Nat.zero_add] at q2
    simp [execOp, ho, hkt.op hm, hkt.op hk, hkt.op hv, Instr.mapUpdate, run_underlying' t1, run_getObj' hg (fun _ _ _ e => by cases e), ky.chk P a ds t2 hd, run_findKey' t2 q2, hks, run_setObj' hg (fun _ _ _ e => by cases e)]
theorem valR_int {k : IntKind} {I : Imm} (v : Int) (u : Value) (h : valR (Kd.int k) false I v u) : u = .int k v := by
  have h' : [u] = [Value.int k v] := h
  simpa using h'
theorem gl_lookupS {κ υ : Type} {ky : Ky κ} {d : Kd υ} {agg ok : Bool} {T' a b : TypeId} {ds : TypeDesc} {xm xk : Operand} {g : Nat} {m : List (κ × υ)} {C : Own} {x : κ} {z : υ} {uz : Value} (enc : υ → Value) (hS : ∀ v u, valR d agg I v u → u = enc v) (hO : OwnM ky d agg I g m C) (hC : ∀ q ∈ C, q ∈ L)
    (ho : (opAt ops k).op = .lookup T' xm xk ok) (h : readyKV ops k N K = true) (hm : kvOp K xm = some (.map (some g))) (hk : kvOp K xk = some (ky.val x)) (ht : mapDesc P T' = some (a, b, ds)) (hd : ky.desc ds = true)
    (hz : zeroV P b = some uz) (hzr : valR d agg I z uz)
    (kk : GLk P ops (k + 1) N (kvPut K (opAt ops k).dst (bif ok then .tuple #[enc ((mget ky m x).getD z), .bool (mget ky m x).isSome] else enc ((mget ky m x).getD z))) I L T) : GLk P ops k N K I L T :=
  gl_lookup hO hC ho h hm hk ht hd hz hzr fun u hu => by rw [hS _ _ hu]; exact kk
end
end Go.GB
/- Floats: a number's bits, or some NaN of which nothing more is known. -/
set_option linter.unusedVariables false
set_option linter.unusedSimpArgs false
namespace Go.GB
open Ieee
abbrev Fl := Option Nat
def NaNw (b : Nat) : Prop := (double.read b).isNaN = true
def FRep : Fl → Nat → Prop
  | some x, b => b = x
  | none, b => NaNw b
theorem FRep.eq {x b : Nat} (h : FRep (some x) b) : b = x := h
theorem FRep.of (x : Nat) : FRep (some x) x := rfl
def Kd.flt : Kd Fl := ⟨1, fun _ p cs => ∃ b, cs = [.float .f64 b] ∧ FRep p b, fun ⟨_, h, _⟩ => by rw [h]; rfl, fun ⟨_, h, _⟩ c hc => by rw [h] at hc; simp at hc; rw [hc]; rfl, fun _ h => h⟩
theorem nan_of {d : Datum} (h : d.isNaN = true) : ∃ s t, d = .nan s t := by cases d <;> first | exact ⟨_, _, rfl⟩ | cases h
def fbin : BinOp → Nat → Nat → Option Nat
  | .add => double.add
  | .sub => double.sub
  | .mul => double.mul
  | .quo => double.div
  | _ => fun _ _ => none
def isArith : BinOp → Bool | .add | .sub | .mul | .quo => true | _ => false
theorem fbin_nan (op : BinOp) {x y : Nat} (h : NaNw x ∨ NaNw y) : fbin op x y = none := by
  rcases h with h | h <;> obtain ⟨s, t, hd⟩ := nan_of h <;> cases op <;> simp only [fbin, Format.add, Format.sub, Format.mul, Format.div, hd] <;>
    first | rfl | (cases double.read x <;> rfl) | (cases double.read y <;> rfl)
def farith (op : BinOp) (p q : Fl) : Fl := p.bind fun x => q.bind fun y => fbin op x y
theorem farith_rep (op : BinOp) {p q : Fl} {x y : Nat} (hp : FRep p x) (hq : FRep q y) : fbin op x y = farith op p q := by
  cases p with
  | none => exact fbin_nan op (.inl hp)
  | some a =>
    cases q with
    | none => exact fbin_nan op (.inr hq)
    | some b => obtain rfl := FRep.eq hp; obtain rfl := FRep.eq hq; rfl
theorem order_nan {x y : Nat} (h : NaNw x ∨ NaNw y) : double.order x y = none := by
  rcases h with h | h <;> obtain ⟨s, t, hd⟩ := nan_of h <;> simp only [Format.order, hd] <;> first | rfl | (cases double.read x <;> rfl) | (cases double.read y <;> rfl)
def forder (p q : Fl) : Option Ordering := p.bind fun x => q.bind fun y => double.order x y
theorem forder_rep {p q : Fl} {x y : Nat} (hp : FRep p x) (hq : FRep q y) : double.order x y = forder p q := by
  cases p with
  | none => exact order_nan (.inl hp)
  | some a =>
    cases q with
    | none => exact order_nan (.inr hq)
    | some b => obtain rfl := FRep.eq hp; obtain rfl := FRep.eq hq; rfl
def fcmp (op : BinOp) (p q : Fl) : Bool := match op with
  | .eql => forder p q == some .eq
  | .neq => forder p q != some .eq
  | .lss => forder p q == some .lt
  | .leq => forder p q == some .lt || forder p q == some .eq
  | .gtr => forder p q == some .gt
  | .geq => forder p q == some .gt || forder p q == some .eq
  | _ => false
def isCmp : BinOp → Bool | .eql | .neq | .lss | .leq | .gtr | .geq => true | _ => false
theorem read_nan {b : Nat} (h : double.infRung < b % double.signWeight) : NaNw b := by
  unfold NaNw Format.read
  have h1 : ¬ b % double.signWeight < double.binade := by
    have : double.binade ≤ double.infRung := by decide
    omega
  rw [if_neg h1, if_neg (by omega), if_neg (by omega)]; rfl
theorem nan_cut (x y t : Nat) : NaNw ((Question.nanBits .f64 x y).cut t) := by
  refine read_nan ?_
  have e1 : double.infRung = 0x7ff0000000000000 := by decide
  have e2 : double.signWeight = 9223372036854775808 := by decide
  rw [e1, e2]
  simp only [Question.cut]
  have hw := Nat.mod_lt (t / 2) (show 0 < 2 ^ 52 - 1 by decide)
  generalize t / 2 % (2 ^ 52 - 1) = w at hw ⊢
  generalize t % 2 = u
  rw [show u * 2 ^ 63 + 9218868437227405312 + 1 + w = 9218868437227405313 + w + 9223372036854775808 * u from by omega, Nat.add_mul_mod_self_left, Nat.mod_eq_of_lt (by omega)]
  omega
section
variable {P : Program} {ops : Array Oper} {k N : Nat} {K : KV} {I : Imm} {L : Own} {T : TPost}
theorem gl_farith {op : BinOp} {t t' : TypeId} {xx yy : Operand} {p q : Fl} {x y : Nat} (hp : FRep p x) (hq : FRep q y) (ho : (opAt ops k).op = .binOp op t xx yy t') (h : readyKV ops k N K = true) (hop : isArith op = true)
    (hx : kvOp K xx = some (.float .f64 x)) (hy : kvOp K yy = some (.float .f64 y))
    (kk : ∀ b, FRep (farith op p q) b → GLk P ops (k + 1) N (kvPut K (opAt ops k).dst (.float .f64 b)) I L T) : GLk P ops k N K I L T := by
  have hr := farith_rep op hp hq
  cases hf : farith op p q with
  | some r =>
    rw [hf] at hr kk
    refine gl_step (v := .float .f64 r) h (fun t ht W hW => ?_) (kk r rfl)
    cases op <;> simp only [isArith, Bool.false_eq_true] at hop <;> simp only [fbin] at hr <;> simp [execOp, ho, ht.op hx, ht.op hy, eqGuard, binOp, Op.floatArith, FloatKind.format, hr]
  | none =>
    rw [hf] at hr kk
    refine gl_gen h fun t ht W hW => ?_
    refine ⟨.float .f64 ((Question.nanBits .f64 x y).cut (W.tape W.drawn (.nanBits .f64 x y))), I, L, { W with drawn := W.drawn + 1 }, ?_, hW.drawn _, kk _ (nan_cut _ _ _)⟩
    cases op <;> simp only [isArith, Bool.false_eq_true] at hop <;> simp only [fbin] at hr <;> simp [execOp, ho, ht.op hx, ht.op hy, eqGuard, binOp, Op.floatArith, FloatKind.format, hr, choose, Sem.run, Question.forced]
theorem gl_fcmp {op : BinOp} {t t' : TypeId} {xx yy : Operand} {p q : Fl} {x y : Nat} (hp : FRep p x) (hq : FRep q y) (ho : (opAt ops k).op = .binOp op t xx yy t') (h : readyKV ops k N K = true) (hop : isCmp op = true)
    (hx : kvOp K xx = some (.float .f64 x)) (hy : kvOp K yy = some (.float .f64 y))
    (kk : GLk P ops (k + 1) N (kvPut K (opAt ops k).dst (.bool (fcmp op p q))) I L T) : GLk P ops k N K I L T := by
  have hr := forder_rep hp hq
  refine gl_step h (fun t ht W hW => ?_) kk
  cases op <;> simp only [isCmp, Bool.false_eq_true] at hop <;> simp [execOp, ho, ht.op hx, ht.op hy, eqGuard, binOp, Op.floatCmp, FloatKind.format, hr, fcmp]
def fbits : Fl → Option Int
  | some x => some (x : Int)
  | none => none
theorem gl_f64bits {f : FuncId} {fn : Func} {p : Fl} {x : Nat} {n : Int} (hn : fbits p = some n) (hp : FRep p x) (hf : P.funcs[f]? = some fn) (h1 : (fn.name == "runtime.NumGoroutine") = false) (h2 : fn.body.isNone = true) (h3 : Extern.findNext fn = none) (h4 : Extern.find fn = some Extern.MathFloatBits.float64bits)
    (h : readyKV ops k N K = true) (hc : calleeFn K (opAt ops k) = some (f, [.float .f64 x]))
    (kk : GLk P ops (k + 1) N (kvPut K (opAt ops k).dst (.int .u64 n)) I L T) : GLk P ops k N K I L T := by
  cases p with
  | none => cases hn
  | some a =>
    obtain rfl := FRep.eq hp
    simp only [fbits, Option.some.injEq] at hn
    subst hn
    exact gl_extern h hc (fun W _ => by rw [run_callFunc_extern hf h1 h2 h3 h4]; rfl) kk
theorem gl_f64from {f : FuncId} {fn : Func} {n : Int} (hf : P.funcs[f]? = some fn) (h1 : (fn.name == "runtime.NumGoroutine") = false) (h2 : fn.body.isNone = true) (h3 : Extern.findNext fn = none) (h4 : Extern.find fn = some Extern.MathFloatBits.float64frombits)
    (h : readyKV ops k N K = true) (hc : calleeFn K (opAt ops k) = some (f, [.int .u64 n]))
    (kk : GLk P ops (k + 1) N (kvPut K (opAt ops k).dst (.float .f64 n.toNat)) I L T) : GLk P ops k N K I L T :=
  gl_extern h hc (fun W _ => by rw [run_callFunc_extern hf h1 h2 h3 h4]; rfl) kk
def fsqrt (p : Fl) : Fl := p.bind double.sqrt
theorem fsqrt_rep {p : Fl} {x : Nat} (hp : FRep p x) : double.sqrt x = fsqrt p := by
  cases p with
  | none => obtain ⟨s, t, hd⟩ := nan_of hp; simp only [Format.sqrt, hd]; rfl
  | some a => obtain rfl := FRep.eq hp; rfl
theorem gl_externD {f : FuncId} {l : List Value} (h : readyKV ops k N K = true) (hc : calleeFn K (opAt ops k) = some (f, l))
    (hv : ∀ W, Holds I L W → ∃ v W', (callFunc f l.toArray).run P W = .ok (.value v) W' ∧ Holds I L W' ∧ GLk P ops (k + 1) N (kvPut K (opAt ops k).dst v) I L T) : GLk P ops k N K I L T := by
  refine gl_gen h fun t ht W hW => ?_
  unfold calleeFn at hc
  split at hc <;> try (cases hc; done)
  rename_i c ho
  split at hc <;> try (cases hc; done)
  rename_i x hx
  split at hc <;> try (cases hc; done)
  rename_i g a b l' hv' hl
  simp only [Option.some.injEq, Prod.mk.injEq] at hc
  obtain ⟨rfl, rfl⟩ := hc
  have hargs : c.args.map (Act.mk t []).eval = l'.toArray := by
    have := kvOps_map ht hl
    rw [← Array.toList_inj, Array.toList_map]; exact this
  obtain ⟨v, W', h1, h2, h3⟩ := hv W hW
  refine ⟨v, I, L, W', ?_, h2, h3⟩
  simp only [execOp, ho, resolve, hx, ht.op hv', Deferred.ofValue, hargs, Sem.run_bind, Sem.run_pure, Result.andThen_ok, invoke]
  have e1 : (a ++ l'.toArray ++ b).toList.toArray = a ++ l'.toArray ++ b := by simp
  rw [e1] at h1
  exact h1
theorem gl_fsqrt {f : FuncId} {fn : Func} {p : Fl} {x : Nat} (hp : FRep p x) (hf : P.funcs[f]? = some fn) (h1 : (fn.name == "runtime.NumGoroutine") = false) (h2 : fn.body.isNone = true) (h3 : Extern.findNext fn = none) (h4 : Extern.find fn = some Extern.MathSqrt.sqrt)
    (h : readyKV ops k N K = true) (hc : calleeFn K (opAt ops k) = some (f, [.float .f64 x]))
    (kk : ∀ b, FRep (fsqrt p) b → GLk P ops (k + 1) N (kvPut K (opAt ops k).dst (.float .f64 b)) I L T) : GLk P ops k N K I L T := by
  have hr := fsqrt_rep hp
  have hsq : Extern.MathSqrt.sqrt ([Value.float .f64 x].toArray) = (match FloatKind.f64.format.sqrt x with | some r => pure (.float .f64 r) | none => do pure (.float .f64 (← choose (.nanBits .f64 x x))) : Sem Value) := rfl
  refine gl_externD h hc fun W hW => ?_
  cases hf' : fsqrt p with
  | some r =>
    rw [hf'] at hr kk
    refine ⟨_, W, ?_, hW, kk r rfl⟩
    rw [run_callFunc_extern hf h1 h2 h3 h4]
    rw [hsq]
    simp [FloatKind.format, hr]
  | none =>
    rw [hf'] at hr kk
    refine ⟨.float .f64 ((Question.nanBits .f64 x x).cut (W.tape W.drawn (.nanBits .f64 x x))), { W with drawn := W.drawn + 1 }, ?_, hW.drawn _, kk _ (nan_cut _ _ _)⟩
    rw [run_callFunc_extern hf h1 h2 h3 h4]
    rw [hsq]
    simp [FloatKind.format, hr, choose, Sem.run, Question.forced]
def ftoi (kd : IntKind) (p : Fl) : Option Int := p.bind fun x => match (FloatKind.f64.decode x).toInt .zero with
  | some n => if kd.min ≤ n ∧ n ≤ kd.max then some n else none
  | none => none
theorem gl_ftoi {src dst : TypeId} {xx : Operand} {kd : IntKind} {p : Fl} {x : Nat} {n : Int} (hn : ftoi kd p = some n) (hp : FRep p x) (ho : (opAt ops k).op = .convert src dst xx) (h : readyKV ops k N K = true) (hx : kvOp K xx = some (.float .f64 x))
    (hs : ∃ d, P.underlying src = some d) (hd : P.underlying dst = some (.int kd))
    (kk : GLk P ops (k + 1) N (kvPut K (opAt ops k).dst (.int kd n)) I L T) : GLk P ops k N K I L T := by
  cases p with
  | none => cases hn
  | some a =>
    obtain rfl := FRep.eq hp
    obtain ⟨d, hs⟩ := hs
    unfold ftoi at hn
    simp only [Option.bind_some] at hn
    refine gl_step h (fun t ht W hW => ?_) kk
    cases ht2 : (FloatKind.f64.decode x).toInt .zero with
    | none => rw [ht2] at hn; cases hn
    | some m =>
      rw [ht2] at hn
      simp only at hn
      split at hn <;> try (cases hn; done)
      rename_i hb
      simp only [Option.some.injEq] at hn
      subst hn
      simp [execOp, ho, ht.op hx, convert, run_underlying' hs, run_underlying' hd, Conv.floatToInt, ht2, hb]
end
def wFlt (p : Fl) (n : Nat) : Prop := ∃ x, p = some x ∧ x < 2 ^ 64
def isFuncT (P : Program) (t : TypeId) : Bool := match P.underlying t with | some (.func _ _ _) => true | _ => false
theorem gl_eqNilTab {P : Program} {ops : Array Oper} {k N : Nat} {K : KV} {I : Imm} {L : Own} {T : TPost} {neg b : Bool} {fv : Value} {t t' : TypeId} {x y : Operand} (hv : (b = true ∧ fv = .nilFunc) ∨ (b = false ∧ ∃ f, fv = .func (.func f) #[] #[]))
    (ho : (opAt ops k).op = .binOp (bif neg then .neq else .eql) t x y t') (h : readyKV ops k N K = true) (hx : kvOp K x = some fv) (hy : kvOp K y = some .nilFunc) (hu : isFuncT P t = true)
    (kk : GLk P ops (k + 1) N (kvPut K (opAt ops k).dst (.bool (bif neg then !b else b))) I L T) : GLk P ops k N K I L T := by
  unfold isFuncT at hu
  split at hu <;> try (cases hu; done)
  rename_i u1 u2 u3 hu1
  have e1 : ∀ (d : Nat) (W : World), (Op.equalIn (d + 1) t .nilFunc .nilFunc).run P W = .ok true W := fun d W => by simp [Op.equalIn, run_underlying' hu1]
  have e2 : ∀ (d f : Nat) (W : World), (Op.equalIn (d + 1) t (.func (.func f) #[] #[]) .nilFunc).run P W = .ok false W := fun d f W => by simp [Op.equalIn, run_underlying' hu1]
  refine gl_step h (fun tm ht W hW => ?_) kk
  have q1 : ∀ W, (Op.equalIn Op.maxDepth t .nilFunc .nilFunc).run P W = .ok true W := fun W => e1 9999 W
  have q2 : ∀ f W, (Op.equalIn Op.maxDepth t (.func (.func f) #[] #[]) .nilFunc).run P W = .ok false W := fun f W => e2 9999 f W
  rcases hv with ⟨rfl, rfl⟩ | ⟨rfl, f, rfl⟩ <;> cases neg <;> simp [execOp, ho, ht.op hx, ht.op hy, eqGuard, binOp, Op.equal, q1, q2]
end Go.GB
/- Functions that can be run out: twins with a bound on rounds. -/
set_option linter.unusedVariables false
set_option linter.unusedSimpArgs false
namespace Go.GB
def loopF {σ ρ : Type} : Nat → (σ → Option (σ ⊕ ρ)) → σ → Option ρ
  | 0, _, _ => none
  | n + 1, body, s => match body s with
    | none => none
    | some (.inr r) => some r
    | some (.inl s') => loopF n body s'
def OLe {α : Type} (x y : Option α) : Prop := ∀ r, x = some r → y = some r
theorem OLe.refl {α : Type} (x : Option α) : OLe x x := fun _ h => h
theorem OLe.bind {α β : Type} {x y : Option α} {f g : α → Option β} (h : OLe x y) (hf : ∀ a, OLe (f a) (g a)) : OLe (Option.bind x f) (Option.bind y g) := fun r hr => by
  obtain ⟨a, ha, hb⟩ := bind_some hr
  rw [h a ha]; exact hf a r hb
theorem OLe.cond {α : Type} {b : Bool} {x y x' y' : Option α} (h : OLe x x') (h' : OLe y y') : OLe (bif b then x else y) (bif b then x' else y') := by
  cases b
  · exact h'
  · exact h
theorem loopF_R {σ ρ : Type} {body body' : σ → Option (σ ⊕ ρ)} (h : ∀ s, OLe (body s) (body' s)) : ∀ (n : Nat) (s : σ) (r : ρ), loopF n body s = some r → LoopR body' s r
  | 0, _, _, hr => by cases hr
  | n + 1, s, r, hr => by
    unfold loopF at hr
    cases hb : body s with
    | none => rw [hb] at hr; cases hr
    | some o =>
      rw [hb] at hr
      cases o with
      | inl s' => exact .step (h s _ hb) (loopF_R h n s' r hr)
      | inr r' => cases hr; exact .done (h s _ hb)
theorem OLe.loop {σ ρ : Type} {body body' : σ → Option (σ ⊕ ρ)} {n : Nat} {s : σ} (h : ∀ s, OLe (body s) (body' s)) : OLe (loopF n body s) (loopO body' s) := fun r hr => loopO_of (loopF_R h n s r hr)
theorem up_inv {σ ρ : Type} {body : σ → Option (σ ⊕ ρ)} (st : Nat → σ) {n : Nat} {r : ρ} (h : ∀ i : Nat, i < n → body (st i) = some (.inl (st (i + 1)))) (he : body (st n) = some (.inr r)) : ∀ i : Nat, i ≤ n → loopO body (st i) = some r := by
  intro i hi
  induction hd : n - i generalizing i with
  | zero =>
    have : i = n := by omega
    subst this
    exact loopO_of (.done he)
  | succ d ih => exact loopO_of (.step (h i (by omega)) (loopR_of (ih (i + 1) (by omega) (by omega))))
end Go.GB
/- slices.SortFunc by the kit's contract, at any order (equals too) and captured values, elements of one cell or more: what is made of the sorted row must not hang on the order of equals. -/
set_option linter.unusedVariables false
set_option linter.unusedSimpArgs false
namespace Go.GB
open Go.RowKit
def SortAble {α : Type} (cmp : α → α → Option Int) (xs : List α) : Prop := ∃ k : α → α → Int, (∀ x ∈ xs, ∀ y ∈ xs, cmp x y = some (k x y)) ∧ Go.Sort.SWO (fun x y => decide (k x y < 0))
def SortRel {α : Type} (cmp : α → α → Option Int) (xs r : List α) : Prop := r.Perm xs ∧ ∀ k : α → α → Int, (∀ x ∈ xs, ∀ y ∈ xs, cmp x y = some (k x y)) → r.Pairwise (fun x y => ¬ k y x < 0)
theorem SortAble.ex {α : Type} {cmp : α → α → Option Int} {xs : List α} (h : SortAble cmp xs) : ∃ r, SortRel cmp xs r := by
  obtain ⟨k, hk, hs⟩ := h
  have hp : (xs.mergeSort (fun x y => !(decide (k y x < 0)))).Perm xs := List.mergeSort_perm _ _
  refine ⟨_, hp, fun k' hk' => ?_⟩
  have h1 : (xs.mergeSort (fun x y => !(decide (k y x < 0)))).Pairwise (fun x y => ¬ k y x < 0) := by
    refine (List.pairwise_mergeSort (le := fun x y => !(decide (k y x < 0))) ?_ ?_ xs).imp (fun h => by simpa using h)
    · intro a b c h1 h2
      simp only [Bool.not_eq_true'] at h1 h2 ⊢
      exact hs.ntrans c b a h2 h1
    · intro a b
      cases h : decide (k b a < 0) with
      | false => simp
      | true =>
        cases h2 : decide (k a b < 0) with
        | false => simp
        | true => have := hs.trans a b a h2 h; rw [hs.irrefl a] at this; cases this
  refine h1.imp_of_mem fun {a b} ha hb hab => ?_
  have e := hk b (hp.mem_iff.1 hb) a (hp.mem_iff.1 ha)
  rw [hk' b (hp.mem_iff.1 hb) a (hp.mem_iff.1 ha)] at e
  rw [Option.some.inj e]; exact hab
open Classical in
noncomputable def sortBind {α β : Type} (cmp : α → α → Option Int) (xs : List α) (F : List α → Option β) : Option β := if h : ∃ b, SortAble cmp xs ∧ ∀ r, SortRel cmp xs r → F r = some b then some h.choose else none
theorem sortBind_some {α β : Type} {cmp : α → α → Option Int} {xs : List α} {F : List α → Option β} {b : β} (h : sortBind cmp xs F = some b) : SortAble cmp xs ∧ ∀ r, SortRel cmp xs r → F r = some b := by
  unfold sortBind at h
  split at h <;> cases h
  rename_i hx
  exact hx.choose_spec
theorem sortBind_of {α β : Type} {cmp : α → α → Option Int} {xs : List α} {F : List α → Option β} {b : β} (ha : SortAble cmp xs) (h : ∀ r, SortRel cmp xs r → F r = some b) : sortBind cmp xs F = some b := by
  have hx : ∃ b, SortAble cmp xs ∧ ∀ r, SortRel cmp xs r → F r = some b := ⟨b, ha, h⟩
  unfold sortBind
  rw [dif_pos hx]
  obtain ⟨r, hr⟩ := ha.ex
  rw [← h r hr]
  exact (hx.choose_spec.2 r hr).symm
abbrev PkT {α : Type} (d : Kd α) (I : Imm) (ys : List α) : Type := { p : List Value × α // d.R I p.2 p.1 ∧ p.2 ∈ ys }
theorem row_packs {α : Type} {d : Kd α} {I : Imm} {ys : List α} {cells : Nat → Option Value} : ∀ (xs : List α) (o : Nat), (∀ x ∈ xs, x ∈ ys) → (∀ i x, xs[i]? = some x → ∃ l, d.R I x l ∧ ∀ j v, l[j]? = some v → cells ((o + i) * d.n + j) = some v) →
    ∃ D : List (PkT d I ys), D.map (fun b => b.1.2) = xs ∧ ∀ i b, D[i]? = some b → ∀ j v, b.1.1[j]? = some v → cells ((o + i) * d.n + j) = some v
  | [], _, _, _ => ⟨[], rfl, fun i b h => by simp at h⟩
  | x :: xs, o, hm, h => by
    obtain ⟨D, hD, hc⟩ := row_packs xs (o + 1) (fun y hy => hm y (List.mem_cons_of_mem _ hy)) (fun i y hy => by
      obtain ⟨l, h1, h2⟩ := h (i + 1) y (by simpa using hy)
      exact ⟨l, h1, fun j v hj => by have := h2 j v hj; rwa [show o + (i + 1) = o + 1 + i from by omega] at this⟩)
    obtain ⟨l, h1, h2⟩ := h 0 x rfl
    refine ⟨⟨(l, x), h1, hm x (by simp)⟩ :: D, by simp [hD], fun i b hb => ?_⟩
    cases i with
    | zero => simp at hb; subst hb; exact h2
    | succ i => have := hc i b (by simpa using hb); rwa [show o + 1 + i = o + (i + 1) from by omega] at this
theorem perm_of_permIn {α : Type} [Inhabited α] {d d' : Array α} (h : Go.Sort.PermIn 0 d.size d d') : d'.toList.Perm d.toList := by
  have h1 : d'.size = d.size := h.1
  have := h.2.2
  rw [Array.extract_size] at this
  rw [← h1, Array.extract_size] at this
  simpa using this
theorem sorted_map {α : Type} {d : Kd α} {I : Imm} {ys : List α} [Inhabited (PkT d I ys)] {k : α → α → Int} {d' : Array (PkT d I ys)} (h : Go.Sort.SortedIn (Go.Proofs.ltOf (fun x y : PkT d I ys => k x.1.2 y.1.2)) 0 d'.size d') :
    (d'.toList.map (fun b => b.1.2)).Pairwise (fun x y => ¬ k y x < 0) := by
  rw [List.pairwise_map, List.pairwise_iff_getElem]
  intro i j hi hj hij
  have hi' : i < d'.size := by simpa using hi
  have hj' : j < d'.size := by simpa using hj
  have := h i j (Nat.zero_le _) hij hj'
  rw [getElem!_pos d' j hj', getElem!_pos d' i hi'] at this
  simpa [Go.Proofs.ltOf] using this
section
variable {P : Program} {ρ : Go.Shelf.Ren} {α : Type} {d : Kd α} {e : TypeId} {I : Imm} {A : Option Addr} {c : Nat} {xs : List α} {C : Own} {cmp : α → α → Option Int} {g : Nat} {cb : Array Value}
theorem world_le {W : World} {L : Own} {gb : Nat} {o : Obj} {f : Array Value → Array Value} {os : Array Obj} (hW : Holds I ((gb, o) :: L) W) {W2 : World} (h2 : W2.heap = W.heap.modify gb (Go.Sort.onCells f) ++ os) : ∀ b o, I.h b = some o → W2.heap[b]? = some o := by
  intro b o' hb
  have hne : gb ≠ b := fun e' => by have := hW.dj (gb, o) (by simp); simp only [e'] at this; rw [this] at hb; cases hb
  have h1 := hW.imm b o' hb
  rw [h2, Array.getElem?_append, if_pos (by simpa using lt_of_heap h1), Array.getElem?_modify, if_neg hne]
  exact h1
theorem callsTo_sortK (LY : Go.Proofs.SlLaysF0.n6 P ρ) (hT : aggInfo P (ρ.t 24) = some (true, d.n)) (hO : OwnS d e I A c xs C) (hr : SortAble cmp xs) (eg : ∀ args w, (callFunc g args).run P w = .ok (.enter g args) w)
    (hc : ∀ {J : Imm} {x y : α} {cx cy : List Value} {k : Int}, (∀ b o, I.h b = some o → J.h b = some o) → d.R J x cx → d.R J y cy → cmp x y = some k → ∀ L, CallsTo P g (#[.agg cx.toArray, .agg cy.toArray] ++ cb) J L (fun v J' L' => v = .int .i64 k ∧ L = L')) (L : Own) :
    CallsTo P (ρ.f 6) #[.slice A xs.length c, .func (.func g) #[] cb] I (C ++ L) (fun v I' L' => ∃ r C', SortRel cmp xs r ∧ OwnS d e I' A c r C' ∧ v = .tuple #[] ∧ C' ++ L = L') := by
  intro W hW
  obtain ⟨k, hk, hs⟩ := hr
  by_cases hx : xs = []
  · subst hx
    exact (Go.Proofs.AnyF.slices_SortFunc_none LY A c _ W).mono fun e W' ⟨he, hw⟩ => ⟨_, I, C ++ L, he, Imm.refl I, hw ▸ hW, [], C, ⟨List.Perm.refl _, fun _ _ => .nil⟩, hO, rfl, rfl⟩
  rcases hO with ⟨rfl, _, _⟩ | ⟨gb, cells, fz, rfl, rfl, hfz, hlc, hcs, hrow, hmx⟩
  · exact absurd rfl hx
  have hg : W.heap[gb]? = some (.cells cells e fz) := hW.own (gb, .cells cells e fz) (by simp)
  obtain ⟨D, hD, hDc⟩ := row_packs (I := I) (d := d) (ys := xs) (cells := fun j => cells[j]?) xs 0 (fun _ h => h) (fun i x hx => by
    obtain ⟨l, h1, h2⟩ := hrow.at_ i x hx
    exact ⟨l, h1, fun j v hj => by rw [Nat.zero_add]; exact h2 j v hj⟩)
  have hDl : D.length = xs.length := by have := congrArg List.length hD; rwa [List.length_map] at this
  obtain ⟨b0, hb0⟩ : ∃ b, b ∈ D := by
    cases D with
    | nil => simp at hD; exact absurd hD hx
    | cons b D => exact ⟨b, by simp⟩
  haveI : Inhabited (PkT d I xs) := ⟨b0⟩
  have hlen : ∀ b : PkT d I xs, b.1.1.length = d.n := fun b => d.len b.2.1
  have hswo : Go.Sort.SWO (Go.Proofs.ltOf (fun x y : PkT d I xs => k x.1.2 y.1.2)) := ⟨fun x => hs.irrefl _, fun x y z => hs.trans _ _ _, fun x y z => hs.ntrans _ _ _⟩
  have hcmp : Go.Proofs.CmpLays P g cb (fun b : PkT d I xs => b.1.1) d.n (fun x y => k x.1.2 y.1.2) gb 0 D.toArray.size W := by
    intro m os dk hs' x y
    have hm : ∀ b o, I.h b = some o → (snap (Go.Proofs.sortWorldK (fun b : PkT d I xs => b.1.1) d.n W gb 0 m dk os)).h b = some o := world_le hW (os := os) rfl
    exact calls_snap (hc hm (d.monoH hm x.2.1) (d.monoH hm y.2.1) (hk _ x.2.2 _ y.2.2) [])
  have hmul : ∀ t, t < D.toArray.size * d.n → t / d.n < D.length ∧ t % d.n < d.n ∧ t / d.n * d.n + t % d.n = t := fun t ht => by
    have hn0 : 0 < d.n := by rcases Nat.eq_zero_or_pos d.n with h0 | h0; rw [h0] at ht; omega; exact h0
    refine ⟨?_, Nat.mod_lt _ hn0, by rw [Nat.mul_comm]; exact Nat.div_add_mod t d.n⟩
    rw [Nat.div_lt_iff_lt_mul hn0]; simpa using ht
  have hcell : ∀ (E : Array (PkT d I xs)) t, t < E.size * d.n → 0 < d.n ∧ ∃ (hi : t / d.n < E.size), (Go.Sort.flatK (fun b : PkT d I xs => b.1.1) d.n E)[t]! = (E[t / d.n]).1.1[t % d.n]! := fun E t ht => by
    have hn0 : 0 < d.n := by rcases Nat.eq_zero_or_pos d.n with h0 | h0; rw [h0] at ht; omega; exact h0
    have hi : t / d.n < E.size := by rw [Nat.div_lt_iff_lt_mul hn0]; exact ht
    exact ⟨hn0, hi, by rw [Go.Sort.get_flatK _ _ _ _ ht, getElem!_pos E _ hi]⟩
  have hH : Go.Sort.HoldsK (fun b : PkT d I xs => b.1.1) d.n W gb 0 D.toArray := by
    intro t ht
    rw [Go.Sort.size_flatK] at ht
    obtain ⟨hn0, hi, he⟩ := hcell D.toArray t ht
    obtain ⟨h1, h2, h3⟩ := hmul t ht
    have hb : t % d.n < (D[t / d.n]'h1).1.1.length := by rw [hlen]; exact h2
    have hcv := hDc (t / d.n) (D[t / d.n]'h1) (List.getElem?_eq_getElem h1) (t % d.n) _ (List.getElem?_eq_getElem hb)
    simp only [Nat.zero_add] at hcv ⊢
    rw [h3] at hcv
    refine ⟨?_, ?_⟩
    · simp only [World.cell?, hg, Option.isSome_none, Bool.false_eq_true, if_false, hcv, he, id]
      rw [List.getElem_toArray, getElem!_pos ((D[t / d.n]'h1).1.1) (t % d.n) hb]
    · simp only [World.frozen?, hg]
      have := hfz t (by
        have : cells[t]? = some _ := hcv
        exact (Array.getElem?_eq_some_iff.1 this).1)
      simp only [Bool.and_eq_false_iff, decide_eq_false_iff_not]
      omega
  have hmx' : xs.length ≤ 2147483648 := hmx
  have hcalls := Go.Proofs.AnyQ.slices_SortFunc LY d.n (aggInfo_spec hT).1 (aggInfo_spec hT).2 (fun b : PkT d I xs => b.1.1) hlen (fun b => d.one b.2.1) (fun x y => k x.1.2 y.1.2) hswo g cb gb 0 c D.toArray W eg hcmp hH (lt_of_heap hg) (by simp; omega)
  rw [show D.toArray.size = xs.length from by simp [hDl]] at hcalls
  refine hcalls.mono ?_
  rintro e' W' ⟨he, d', n, os, hp', hs', rfl⟩
  have hsz : D.toArray.size = xs.length := by simp [hDl]
  have hds : d'.size = xs.length := hp'.1.trans hsz
  have hpm : d'.toList.Perm D := by
    rw [← hsz] at hp'
    simpa using perm_of_permIn hp'
  have hperm : (d'.toList.map (fun b => b.1.2)).Perm xs := by
    have := hpm.map (fun b => b.1.2)
    rwa [hD] at this
  have hrel : SortRel cmp xs (d'.toList.map (fun b => b.1.2)) := by
    refine ⟨hperm, fun k' hk' => ?_⟩
    have h1 := sorted_map (k := k) (d' := d') (by rw [hds]; exact hs')
    refine h1.imp_of_mem fun {a b} ha hb hab => ?_
    have e := hk b (hperm.mem_iff.1 hb) a (hperm.mem_iff.1 ha)
    rw [hk' b (hperm.mem_iff.1 hb) a (hperm.mem_iff.1 ha)] at e
    rw [Option.some.inj e]; exact hab
  have hrl : (d'.toList.map (fun b => b.1.2)).length = xs.length := hperm.length_eq
  obtain ⟨cells', hcells'⟩ : ∃ cells', Go.Sort.putCells id 0 (Go.Sort.flatK (fun b : PkT d I xs => b.1.1) d.n d') cells = cells' := ⟨_, rfl⟩
  have hsz' : cells'.size = cells.size := by rw [← hcells']; simp [Go.Sort.putCells]
  have hget : ∀ t, t < d'.size * d.n → cells'[t]? = some (Go.Sort.flatK (fun b : PkT d I xs => b.1.1) d.n d')[t]! := fun t ht => by
    have hi2 : t < cells.size := by
      rw [hcs]
      exact Nat.lt_of_lt_of_le ht (Nat.mul_le_mul_right _ (by omega))
    rw [← hcells', Go.Sort.putCells, Array.getElem?_mapIdx, Array.getElem?_eq_getElem hi2, Option.map_some]
    simp only [Nat.zero_le, true_and, Nat.zero_add, Go.Sort.size_flatK, ht, if_true, Nat.sub_zero, id]
  refine ⟨_, I, (gb, .cells cells' e fz) :: L, he, Imm.refl I, ?_, _, [(gb, .cells cells' e fz)], hrel, .inr ⟨gb, cells', fz, rfl, rfl, by rw [hsz']; exact hfz, by omega, by rw [hsz']; exact hcs, ⟨fun i x hx => ?_⟩, by omega⟩, rfl, rfl⟩
  · refine Holds.grow (W := Go.Sort.putRowK (fun b : PkT d I xs => b.1.1) d.n (Go.Sort.ahead W n) gb 0 d') (Holds.set (A := []) hW (.cells cells' e fz) ?_ (fun b hb => ?_) rfl rfl ⟨rfl, ?_⟩) os
    · show (W.heap.modify gb _)[gb]? = _
      rw [Array.getElem?_modify, if_pos rfl, hg]
      simp only [Option.map_some, Go.Sort.onCells, hcells']
    · show (W.heap.modify gb _)[b]? = _
      rw [Array.getElem?_modify, if_neg (Ne.symm hb)]
    · show W.drawn ≤ W.drawn + n
      omega
  · rw [List.getElem?_map] at hx
    cases hb : d'.toList[i]? with
    | none => rw [hb] at hx; cases hx
    | some b =>
      rw [hb] at hx
      simp only [Option.map_some, Option.some.injEq] at hx
      subst hx
      obtain ⟨hi, hbe⟩ := List.getElem?_eq_some_iff.1 hb
      have hi' : i < d'.size := by simpa using hi
      refine ⟨b.1.1, b.2.1, fun j v hj => ?_⟩
      obtain ⟨hjl, hjv⟩ := List.getElem?_eq_some_iff.1 hj
      rw [hlen] at hjl
      have hlt : i * d.n + j < d'.size * d.n := by
        have : (i + 1) * d.n ≤ d'.size * d.n := Nat.mul_le_mul_right _ (by omega)
        rw [Nat.add_mul, Nat.one_mul] at this; omega
      obtain ⟨hn0, hi2, hev⟩ := hcell d' _ hlt
      have hdiv : (i * d.n + j) / d.n = i := by rw [Nat.add_comm, Nat.add_mul_div_right _ _ hn0, Nat.div_eq_of_lt hjl, Nat.zero_add]
      have hmod : (i * d.n + j) % d.n = j := by rw [Nat.add_comm, Nat.add_mul_mod_self_right, Nat.mod_eq_of_lt hjl]
      rw [hget _ hlt, hev]
      have hbi : d'[(i * d.n + j) / d.n] = b := by
        have : d'.toList[i] = b := hbe
        simp only [hdiv]
        simpa using this
      rw [hbi, hmod, getElem!_pos _ _ (by rw [hlen]; exact hjl), hjv]
theorem callsTo_sort1 (LY : Go.Proofs.SlLaysF.n6 P ρ) (hn : d.n = 1) (hO : OwnS d e I A c xs C) (hr : SortAble cmp xs) (eg : ∀ args w, (callFunc g args).run P w = .ok (.enter g args) w)
    (hc : ∀ {J : Imm} {x y : α} {vx vy : Value} {k : Int}, (∀ b o, I.h b = some o → J.h b = some o) → d.R J x [vx] → d.R J y [vy] → cmp x y = some k → ∀ L, CallsTo P g (#[vx, vy] ++ cb) J L (fun v J' L' => v = .int .i64 k ∧ L = L')) (L : Own) :
    CallsTo P (ρ.f 6) #[.slice A xs.length c, .func (.func g) #[] cb] I (C ++ L) (fun v I' L' => ∃ r C', SortRel cmp xs r ∧ OwnS d e I' A c r C' ∧ v = .tuple #[] ∧ C' ++ L = L') := by
  intro W hW
  obtain ⟨k, hk, hs⟩ := hr
  by_cases hx : xs = []
  · subst hx
    exact (Go.Proofs.AnyF.slices_SortFunc_none { LY with } A c _ W).mono fun e W' ⟨he, hw⟩ => ⟨_, I, C ++ L, he, Imm.refl I, hw ▸ hW, [], C, ⟨List.Perm.refl _, fun _ _ => .nil⟩, hO, rfl, rfl⟩
  rcases hO with ⟨rfl, _, _⟩ | ⟨gb, cells, fz, rfl, rfl, hfz, hlc, hcs, hrow, hmx⟩
  · exact absurd rfl hx
  have hg : W.heap[gb]? = some (.cells cells e fz) := hW.own (gb, .cells cells e fz) (by simp)
  obtain ⟨D, hD, hDc⟩ := row_packs (I := I) (d := d) (ys := xs) (cells := fun j => cells[j]?) xs 0 (fun _ h => h) (fun i x hx => by
    obtain ⟨l, h1, h2⟩ := hrow.at_ i x hx
    exact ⟨l, h1, fun j v hj => by rw [Nat.zero_add]; exact h2 j v hj⟩)
  have hDl : D.length = xs.length := by have := congrArg List.length hD; rwa [List.length_map] at this
  have hcl : cells.size = c := by rw [hcs, hn]; omega
  obtain ⟨b0, hb0⟩ : ∃ b, b ∈ D := by
    cases D with
    | nil => simp at hD; exact absurd hD hx
    | cons b D => exact ⟨b, by simp⟩
  haveI : Inhabited (PkT d I xs) := ⟨b0⟩
  have hone : ∀ b : PkT d I xs, b.1.1 = [b.1.1[0]!] := fun b => by
    have h1 := d.len b.2.1
    rw [hn] at h1
    obtain ⟨v, hv⟩ := List.length_eq_one_iff.1 h1
    rw [hv]; rfl
  have hswo : Go.Sort.SWO (Go.Proofs.ltOf (fun x y : PkT d I xs => k x.1.2 y.1.2)) := ⟨fun x => hs.irrefl _, fun x y z => hs.trans _ _ _, fun x y z => hs.ntrans _ _ _⟩
  have hcmp : Go.Proofs.CmpLays1 P g cb (fun b : PkT d I xs => b.1.1[0]!) (fun x y => k x.1.2 y.1.2) gb 0 D.toArray.size W := by
    intro m os dk hs' x y
    have hm : ∀ b o, I.h b = some o → (snap (Go.Proofs.sortWorld (fun b : PkT d I xs => b.1.1[0]!) W gb 0 m dk os)).h b = some o := world_le hW (os := os) rfl
    have h1 := d.monoH hm x.2.1
    have h2 := d.monoH hm y.2.1
    rw [hone] at h1 h2
    exact calls_snap (hc hm h1 h2 (hk _ x.2.2 _ y.2.2) [])
  have hH : Go.Sort.Holds (fun b : PkT d I xs => b.1.1[0]!) W gb 0 D.toArray := by
    intro j hj
    have hj' : j < D.length := by simpa using hj
    have h1 := hDc j D[j] (List.getElem?_eq_getElem hj') 0 _ (by rw [hone]; rfl)
    simp only [Nat.zero_add, hn, Nat.mul_one, Nat.add_zero] at h1 ⊢
    refine ⟨?_, ?_⟩
    · simp only [World.cell?, hg, Option.isSome_none, Bool.false_eq_true, if_false, h1]
      rw [getElem!_pos D.toArray j hj]; simp
    · simp only [World.frozen?, hg]
      have := hfz j (by omega)
      simp only [Bool.and_eq_false_iff, decide_eq_false_iff_not]
      omega
  have hmx' : xs.length ≤ 2147483648 := hmx
  have hcalls := Go.Proofs.Any.slices_SortFunc LY (fun b : PkT d I xs => b.1.1[0]!) (fun b => d.one b.2.1 _ (by rw [hone b]; simp)) (fun x y => k x.1.2 y.1.2) hswo g cb gb 0 c D.toArray W eg hcmp hH (lt_of_heap hg) (by simp; omega)
  rw [show D.toArray.size = xs.length from by simp [hDl]] at hcalls
  refine hcalls.mono ?_
  rintro e' W' ⟨he, d', n, os, hp', hs', rfl⟩
  have hsz : D.toArray.size = xs.length := by simp [hDl]
  have hds : d'.size = xs.length := hp'.1.trans hsz
  have hpm : d'.toList.Perm D := by
    rw [← hsz] at hp'
    simpa using perm_of_permIn hp'
  have hperm : (d'.toList.map (fun b => b.1.2)).Perm xs := by
    have := hpm.map (fun b => b.1.2)
    rwa [hD] at this
  have hrel : SortRel cmp xs (d'.toList.map (fun b => b.1.2)) := by
    refine ⟨hperm, fun k' hk' => ?_⟩
    have h1 := sorted_map (k := k) (d' := d') (by rw [hds]; exact hs')
    refine h1.imp_of_mem fun {a b} ha hb hab => ?_
    have e := hk b (hperm.mem_iff.1 hb) a (hperm.mem_iff.1 ha)
    rw [hk' b (hperm.mem_iff.1 hb) a (hperm.mem_iff.1 ha)] at e
    rw [Option.some.inj e]; exact hab
  have hrl : (d'.toList.map (fun b => b.1.2)).length = xs.length := hperm.length_eq
  obtain ⟨cells', hcells'⟩ : ∃ cells', Go.Sort.putCells (fun b : PkT d I xs => b.1.1[0]!) 0 d' cells = cells' := ⟨_, rfl⟩
  have hsz' : cells'.size = cells.size := by rw [← hcells']; simp [Go.Sort.putCells]
  have hget : ∀ i (hi : i < d'.size), cells'[i]? = some ((d'[i]).1.1[0]!) := fun i hi => by
    have hi2 : i < cells.size := by omega
    rw [← hcells', Go.Sort.putCells, Array.getElem?_mapIdx, Array.getElem?_eq_getElem hi2, Option.map_some]
    simp only [Nat.zero_le, true_and, Nat.zero_add, hi, if_true, Nat.sub_zero]
    rw [getElem!_pos d' i hi]
  refine ⟨_, I, (gb, .cells cells' e fz) :: L, he, Imm.refl I, ?_, _, [(gb, .cells cells' e fz)], hrel, .inr ⟨gb, cells', fz, rfl, rfl, by rw [hsz']; exact hfz, by omega, by rw [hsz']; exact hcs, ⟨fun i x hx => ?_⟩, by omega⟩, rfl, rfl⟩
  · refine Holds.grow (W := Go.Sort.putRow (fun b : PkT d I xs => b.1.1[0]!) (Go.Sort.ahead W n) gb 0 d') (Holds.set (A := []) hW (.cells cells' e fz) ?_ (fun b hb => ?_) rfl rfl ⟨rfl, ?_⟩) os
    · show (W.heap.modify gb _)[gb]? = _
      rw [Array.getElem?_modify, if_pos rfl, hg]
      simp only [Option.map_some, Go.Sort.onCells, hcells']
    · show (W.heap.modify gb _)[b]? = _
      rw [Array.getElem?_modify, if_neg (Ne.symm hb)]
    · show W.drawn ≤ W.drawn + n
      omega
  · rw [List.getElem?_map] at hx
    cases hb : d'.toList[i]? with
    | none => rw [hb] at hx; cases hx
    | some b =>
      rw [hb] at hx
      simp only [Option.map_some, Option.some.injEq] at hx
      subst hx
      obtain ⟨hi, hbe⟩ := List.getElem?_eq_some_iff.1 hb
      refine ⟨b.1.1, b.2.1, fun j v hj => ?_⟩
      rw [hone b] at hj
      cases j with
      | zero =>
        simp only [List.getElem?_cons_zero, Option.some.injEq] at hj
        subst hj
        have := hget i (by simpa using hi)
        rw [hn, Nat.mul_one, Nat.add_zero, this]
        have hbi : d'[i]'(by simpa using hi) = b := by simpa using hbe
        rw [hbi]
      | succ j => simp at hj
end
def lt1 {α : Type} (cmp : α → α → Option Int) (x y : α) : Bool := match cmp x y with | some k => decide (k < 0) | none => false
def ge1 {α : Type} (cmp : α → α → Option Int) (x y : α) : Bool := match cmp x y with | some k => decide (0 ≤ k) | none => false
def insC {α : Type} (cmp : α → α → Option Int) (x : α) : List α → List α
  | [] => [x]
  | y :: l => bif lt1 cmp x y then x :: y :: l else y :: insC cmp x l
def isortC {α : Type} (cmp : α → α → Option Int) : List α → List α
  | [] => []
  | x :: l => insC cmp x (isortC cmp l)
def strictC {α : Type} (cmp : α → α → Option Int) : List α → Bool
  | [] => true
  | x :: l => ge1 cmp x x && (l.all (fun y => lt1 cmp x y && ge1 cmp y x) && strictC cmp l)
def sortC {α : Type} (cmp : α → α → Option Int) (xs : List α) : Option (List α) := bif strictC cmp (isortC cmp xs) then some (isortC cmp xs) else none
def sortBindC {α β : Type} (cmp : α → α → Option Int) (xs : List α) (F : List α → Option β) : Option β := Option.bind (sortC cmp xs) F
theorem insC_perm {α : Type} {cmp : α → α → Option Int} {x : α} : ∀ l, (insC cmp x l).Perm (x :: l)
  | [] => List.Perm.refl _
  | y :: l => by
    unfold insC
    cases lt1 cmp x y with
    | true => exact List.Perm.refl _
    | false => exact (List.Perm.cons y (insC_perm l)).trans (List.Perm.swap x y l)
theorem isortC_perm {α : Type} {cmp : α → α → Option Int} : ∀ l, (isortC cmp l).Perm l
  | [] => List.Perm.refl _
  | x :: l => (insC_perm _).trans (List.Perm.cons x (isortC_perm l))
theorem lt1_some {α : Type} {cmp : α → α → Option Int} {x y : α} (h : lt1 cmp x y = true) : ∃ k, cmp x y = some k ∧ k < 0 := by
  unfold lt1 at h
  split at h
  · rename_i k hk; exact ⟨k, hk, of_decide_eq_true h⟩
  · cases h
theorem ge1_some {α : Type} {cmp : α → α → Option Int} {x y : α} (h : ge1 cmp x y = true) : ∃ k, cmp x y = some k ∧ 0 ≤ k := by
  unfold ge1 at h
  split at h
  · rename_i k hk; exact ⟨k, hk, of_decide_eq_true h⟩
  · cases h
structure StrictR {α : Type} (cmp : α → α → Option Int) (r : List α) : Prop where
  self : ∀ x ∈ r, ∃ k, cmp x x = some k ∧ 0 ≤ k
  lt : r.Pairwise fun x y => (∃ k, cmp x y = some k ∧ k < 0) ∧ ∃ k, cmp y x = some k ∧ 0 ≤ k
theorem strictC_R {α : Type} {cmp cmp' : α → α → Option Int} (hc : ∀ x y, OLe (cmp x y) (cmp' x y)) : ∀ {r : List α}, strictC cmp r = true → StrictR cmp' r
  | [], _ => ⟨fun x h => (by cases h), List.Pairwise.nil⟩
  | x :: l, h => by
    unfold strictC at h
    simp only [Bool.and_eq_true, List.all_eq_true] at h
    obtain ⟨h1, h2, h3⟩ := h
    obtain ⟨i1, i2⟩ := strictC_R hc h3
    have hx := ge1_some h1
    refine ⟨fun y hy => ?_, List.pairwise_cons.2 ⟨fun y hy => ?_, i2⟩⟩
    · rcases List.mem_cons.1 hy with rfl | hy
      · exact hx.imp fun k hk => ⟨hc _ _ _ hk.1, hk.2⟩
      · exact i1 y hy
    · obtain ⟨q1, q2⟩ := h2 y hy
      exact ⟨(lt1_some q1).imp fun k hk => ⟨hc _ _ _ hk.1, hk.2⟩, (ge1_some q2).imp fun k hk => ⟨hc _ _ _ hk.1, hk.2⟩⟩
theorem StrictR.def {α : Type} {cmp : α → α → Option Int} : ∀ {r : List α}, StrictR cmp r → ∀ x ∈ r, ∀ y ∈ r, ∃ k, cmp x y = some k
  | [], _, x, hx, _, _ => by cases hx
  | z :: l, h, x, hx, y, hy => by
    obtain ⟨h1, h2⟩ := List.pairwise_cons.1 h.lt
    rcases List.mem_cons.1 hx with rfl | hx1
    · rcases List.mem_cons.1 hy with rfl | hy1
      · exact (h.self _ (by simp)).imp fun k hk => hk.1
      · exact (h1 y hy1).1.imp fun k hk => hk.1
    · rcases List.mem_cons.1 hy with rfl | hy1
      · exact (h1 x hx1).2.imp fun k hk => hk.1
      · exact StrictR.def ⟨fun x hx => h.self x (List.mem_cons_of_mem _ hx), h2⟩ x hx1 y hy1
theorem StrictR.rank {α : Type} {cmp : α → α → Option Int} : ∀ {r : List α}, StrictR cmp r → ∃ f : α → Nat, (∀ x, x ∈ r ↔ f x < r.length) ∧ ∀ x ∈ r, ∀ y ∈ r, ∀ k, cmp x y = some k → (k < 0 ↔ f x < f y)
  | [], _ => ⟨fun _ => 0, fun x => by simp, fun x hx => by cases hx⟩
  | z :: l, h => by
    obtain ⟨h1, h2⟩ := List.pairwise_cons.1 h.lt
    obtain ⟨f, f1, f2⟩ := StrictR.rank (r := l) ⟨fun x hx => h.self x (List.mem_cons_of_mem _ hx), h2⟩
    have hz : ∀ y ∈ l, y ≠ z := fun y hy e => by
      subst e
      obtain ⟨⟨k, q1, q2⟩, _⟩ := h1 y hy
      obtain ⟨k', q3, q4⟩ := h.self y (by simp)
      rw [q1] at q3; cases q3; omega
    classical
    refine ⟨fun x => if x = z then 0 else f x + 1, fun x => ?_, fun x hx y hy k hk => ?_⟩
    · by_cases hxz : x = z
      · simp [hxz]
      · simp [hxz, f1 x]
    · by_cases hxz : x = z
      · subst hxz
        by_cases hyz : y = x
        · subst hyz
          obtain ⟨k', q3, q4⟩ := h.self y (by simp)
          rw [hk] at q3; cases q3
          simp; omega
        · have hy' : y ∈ l := (List.mem_cons.1 hy).resolve_left hyz
          obtain ⟨⟨k', q1, q2⟩, _⟩ := h1 y hy'
          rw [hk] at q1; cases q1
          simp [hyz, q2]
      · have hx' : x ∈ l := (List.mem_cons.1 hx).resolve_left hxz
        by_cases hyz : y = z
        · subst hyz
          obtain ⟨_, k', q1, q2⟩ := h1 x hx'
          rw [hk] at q1; cases q1
          simp [hxz]; omega
        · have hy' : y ∈ l := (List.mem_cons.1 hy).resolve_left hyz
          simp [hxz, hyz]; exact f2 x hx' y hy' k hk
theorem StrictR.sortable {α : Type} {cmp : α → α → Option Int} {r : List α} (h : StrictR cmp r) : SortAble cmp r := by
  obtain ⟨f, f1, f2⟩ := h.rank
  classical
  refine ⟨fun x y => if x ∈ r ∧ y ∈ r then (cmp x y).getD 0 else (f x : Int) - f y, fun x hx y hy => ?_, ?_⟩
  · obtain ⟨k, hk⟩ := h.def x hx y hy
    simp [hx, hy, hk]
  · have key : ∀ x y, decide ((if x ∈ r ∧ y ∈ r then (cmp x y).getD 0 else (f x : Int) - f y) < 0) = decide (f x < f y) := fun x y => by
      by_cases hxy : x ∈ r ∧ y ∈ r
      · obtain ⟨k, hk⟩ := h.def x hxy.1 y hxy.2
        have := f2 x hxy.1 y hxy.2 k hk
        simp only [if_pos hxy, hk, Option.getD_some, this]
      · simp only [if_neg hxy]
        by_cases hlt : f x < f y
        · rw [decide_eq_true hlt]; exact decide_eq_true (by omega)
        · rw [decide_eq_false hlt]; exact decide_eq_false (by omega)
    refine ⟨fun x => ?_, fun x y z h1 h2 => ?_, fun x y z h1 h2 => ?_⟩
    · simp only [key]; simp
    · simp only [key, decide_eq_true_eq] at *; omega
    · simp only [key, decide_eq_false_iff_not] at *; omega
theorem SortAble.perm {α : Type} {cmp : α → α → Option Int} {xs ys : List α} (h : SortAble cmp xs) (hp : ys.Perm xs) : SortAble cmp ys :=
  let ⟨k, h1, h2⟩ := h
  ⟨k, fun x hx y hy => h1 x (hp.mem_iff.1 hx) y (hp.mem_iff.1 hy), h2⟩
theorem OLe.sort {α β : Type} {cmp cmp' : α → α → Option Int} {xs : List α} {F F' : List α → Option β} (hc : ∀ x y, OLe (cmp x y) (cmp' x y)) (hF : ∀ r, OLe (F r) (F' r)) : OLe (sortBindC cmp xs F) (sortBind cmp' xs F') := fun b hb => by
  obtain ⟨r, hr, hb⟩ := bind_some hb
  unfold sortC at hr
  cases hs : strictC cmp (isortC cmp xs) with
  | false => rw [hs] at hr; cases hr
  | true =>
    rw [hs] at hr
    cases hr
    have hR := strictC_R hc hs
    have hp := isortC_perm (cmp := cmp) xs
    refine sortBind_of (hR.sortable.perm hp.symm) fun r' hr' => ?_
    obtain ⟨k, hk, hswo⟩ := hR.sortable
    have hall : ∀ x ∈ xs, ∀ y ∈ xs, cmp' x y = some (k x y) := fun x hx y hy => hk x (hp.mem_iff.2 hx) y (hp.mem_iff.2 hy)
    have h1 := hr'.2 k hall
    have hpp : r'.Perm (isortC cmp xs) := hr'.1.trans hp.symm
    have h2 : (isortC cmp xs).Pairwise (fun x y => ¬ k y x < 0) := hR.lt.imp_of_mem fun {x y} hx hy ⟨_, q, q1, q2⟩ => by
      rw [hk y hy x hx] at q1; cases q1; omega
    have h3 : r' = isortC cmp xs := by
      refine hpp.eq_of_pairwise (le := fun x y => ¬ k y x < 0) (fun a b ha hb' q1 q2 => ?_) h1 h2
      -- neither is below: they are one
      obtain ⟨f, f1, f2⟩ := hR.rank
      have ha' := hpp.mem_iff.1 ha
      have e1 := f2 a ha' b hb' _ (hk a ha' b hb')
      have e2 := f2 b hb' a ha' _ (hk b hb' a ha')
      have hfe : f a = f b := by omega
      have inj : ∀ (r : List α) (hR : StrictR cmp' r) (a b : α), a ∈ r → b ∈ r → ¬ k b a < 0 → ¬ k a b < 0 → (∀ x ∈ r, ∀ y ∈ r, cmp' x y = some (k x y)) → a = b := by
        intro r
        induction r with
        | nil => intro _ a b ha; cases ha
        | cons z l ih =>
          intro hR a b ha hb q1 q2 hk
          obtain ⟨p1, p2⟩ := List.pairwise_cons.1 hR.lt
          rcases List.mem_cons.1 ha with rfl | ha1
          · rcases List.mem_cons.1 hb with rfl | hb1
            · rfl
            · obtain ⟨⟨q, w1, w2⟩, _⟩ := p1 b hb1
              rw [hk a (by simp) b (List.mem_cons_of_mem _ hb1)] at w1; cases w1; exact absurd w2 q2
          · rcases List.mem_cons.1 hb with rfl | hb1
            · obtain ⟨⟨q, w1, w2⟩, _⟩ := p1 a ha1
              rw [hk b (by simp) a (List.mem_cons_of_mem _ ha1)] at w1; cases w1; exact absurd w2 q1
            · exact ih ⟨fun x hx => hR.self x (List.mem_cons_of_mem _ hx), p2⟩ a b ha1 hb1 q1 q2 (fun x hx y hy => hk x (List.mem_cons_of_mem _ hx) y (List.mem_cons_of_mem _ hy))
      exact inj _ hR a b ha' hb' q1 q2 hk
    rw [h3]
    exact hF _ _ hb
end Go.GB
/- Rows of zeros: append(nil, make([]T, n)...). -/
set_option linter.unusedVariables false
set_option linter.unusedSimpArgs false
namespace Go.GB
open Go.RowKit
section
variable {P : Program} {ops : Array Oper} {k N : Nat} {K : KV} {I : Imm} {L : Own} {T : TPost}
end
theorem RepS.view {α : Type} {d : Kd α} {I : Imm} {A : Option Addr} {c : Nat} {l l' : List α} {a b : Int} (hx : lx l a b = some l') (h : RepS d I A c l) : RepS d I (viewA A a d.n c) (c - a.toNat) l' := by
  unfold lx at hx
  split at hx <;> try (cases hx; done)
  rename_i hb
  obtain ⟨h0, h1, h2⟩ := hb
  simp only [Option.some.injEq] at hx
  have hle := h.le
  have hmx := h.max
  have hlen : l'.length = b.toNat - a.toNat := by rw [← hx]; simp; omega
  refine ⟨by omega, by omega, fun i x hi => ?_⟩
  have hi' : i < l'.length := (List.getElem?_eq_some_iff.1 hi).1
  rw [← hx, List.getElem?_drop, List.getElem?_take] at hi
  split at hi <;> try (cases hi; done)
  obtain ⟨a0, cs, rfl, hR, hr⟩ := h.at_ _ x hi
  refine ⟨a0.add (a.toNat * d.n), cs, ?_, hR, ?_⟩
  · unfold viewA
    rw [if_neg (by omega)]; rfl
  · rw [add_add, ← Nat.add_mul]; exact hr
section
variable {P : Program} {ops : Array Oper} {k N : Nat} {K : KV} {I : Imm} {L : Own} {T : TPost}
end
end Go.GB
/- Regions of which every operation leaves memory as it is, and of which values may be any of many (bits of a NaN): every order is told at once. -/
set_option linter.unusedVariables false
set_option linter.unusedSimpArgs false
namespace Go.GB
section
variable {P : Program} {ops : Array Oper} {n N : Nat}
def plainOp : Op → Bool
  | .move _ | .assign _ | .pick _ _ _ | .load _ _ | .binOp _ _ _ _ _ | .unOp _ _ _ | .convert _ _ _ | .fieldAddr _ _ _ | .field _ _ _ | .indexAddr _ _ _ | .index _ _ _ => true
  | _ => false
def enters : Result Next → Bool
  | .ok (.enter _ _) _ | .ok (.row _ _) _ => true
  | _ => false
theorem value_no (s : Sem Value) (W : World) : enters ((do pure (Next.value (← s)) : Sem Next).run P W) = false := by
  simp only [Sem.run_bind, Sem.run_pure]
  generalize s.run P W = r
  cases r <;> rfl
theorem plain_no {o : Oper} (h : plainOp o.op = true) (ρ : Operand → Value) (W : World) : enters ((execOp ρ o).run P W) = false := by
  unfold execOp
  cases ho : o.op <;> rw [ho] at h <;> first | (cases h; done) | skip
  all_goals simp only
  all_goals first | exact value_no _ _ | rfl | skip
  rename_i c a b
  simp only [Sem.run_bind]
  generalize (asBool (ρ c)).run P W = r
  cases r <;> rfl
theorem wpOp_all {Q : Exit → Act → World → Prop} {j : Nat} {oj : Oper} (hj : ops[j]? = some oj) (hpl : plainOp oj.op = true) (hQ : NoExit Q) {V : Value → Prop} (hne : ∃ u, V u) {K : Value → Act → World → Prop} {a : Act} {w : World}
    (h : ∀ u, V u → wpOp P ops Q j (K u) a w) : wpOp P ops Q j (fun a' w' => ∀ u, V u → K u a' w') a w := by
  unfold wpOp at h ⊢
  simp only [hj] at h ⊢
  cases hw : Region.wanted oj (yielded ops a.tmps) with
  | false => simp only [hw, Bool.false_eq_true, if_false] at h ⊢; exact h
  | true =>
    simp only [hw, if_true] at h ⊢
    refine .inl ?_
    have h := fun u hu => (h u hu).resolve_right fun hx => hQ.lets hx.2
    have hno := plain_no (P := P) hpl a.eval w
    unfold Oper.wp at h ⊢
    generalize (execOp a.eval oj).run P w = r at *
    obtain ⟨u0, hu0⟩ := hne
    cases r with
    | ok x w' =>
      cases x <;> simp only [Oper.upon] at h ⊢
      case value v => exact h
      case skip => exact h
      case defer d => exact h
      case enter f args => cases hno
      case row row args => cases hno
      all_goals exact h u0 hu0
    | halt x w' =>
      cases x <;> simp only [Oper.upon] at h ⊢
      all_goals exact h u0 hu0
def GQ (P : Program) (ops : Array Oper) (Q : Exit → Act → World → Prop) (n : Nat) (F : Act → Prop) (I : Imm) (L : Own) : Nat → Array Bool → Act → Prop
  | 0, listed, a => Region.seqB .any ops (ops.size - n) n listed = true ∧ F a
  | f + 1, listed, a => ∀ W, Holds I L W → Region.ready .any ops listed ≠ [] ∧ ∀ i ∈ Region.ready .any ops listed, i < n ∧
      wpOp P ops Q i (fun a' W' => Holds I L W' ∧ GQ P ops Q n F I L f (listed.setIfInBounds i true) a') a W
theorem GQ.toGG {Q : Exit → Act → World → Prop} {F : Act → Imm → Own → Prop} {S : List Nat} {Ls : Own} {I : Imm} {L L0 : Own} (hL : ∀ p ∈ L0, p ∈ L) : ∀ (f : Nat) (listed : Array Bool) (a : Act), GQ P ops Q n (fun a => F a I L) I L f listed a → GG P ops Q n F S Ls f I L0 listed a I L
  | 0, _, _, h => h
  | f + 1, _, _, h => fun W hW => ⟨(h W hW).1, fun i hi => ⟨((h W hW).2 i hi).1, wpOp_mono (fun a' W' ⟨hh, hg⟩ => ⟨I, L, L0, .inl rfl, CC.refl hL, hh, GQ.toGG hL f _ _ hg⟩) ((h W hW).2 i hi).2⟩⟩
def upW (V : Value → Prop) (R : World → Prop) : Result Next → Prop
  | .ok (.value u) W' => V u ∧ R W'
  | .ok .skip W' => V undef ∧ R W'
  | _ => False
def VagueG (P : Program) (ops : Array Oper) (I : Imm) (L : Own) (o : Oper) (V : Value → Prop) (a : Act) : Prop :=
  (Region.wanted o (yielded ops a.tmps) = true ∧ ∀ W, Holds I L W → upW V (Holds I L) ((execOp a.eval o).run P W)) ∨
  (Region.wanted o (yielded ops a.tmps) = false ∧ V undef)
theorem VagueG.same {I : Imm} {L : Own} {o : Oper} {V : Value → Prop} {a a' : Act} (h : VagueG P ops I L o V a) (hs : SameAt ops o a a') : VagueG P ops I L o V a' := by
  unfold VagueG at *
  rw [hs.1, hs.2]; exact h
theorem vague_some {I : Imm} {L : Own} {o : Oper} {V : Value → Prop} {a : Act} (h : VagueG P ops I L o V a) {W : World} (hW : Holds I L W) : ∃ u, V u := by
  rcases h with ⟨_, h⟩ | ⟨_, h⟩
  · have := h W hW
    generalize (execOp a.eval o).run P W = r at this
    cases r with
    | ok x w' => cases x <;> simp only [upW] at this <;> exact ⟨_, this.1⟩
    | halt x w' => cases this
  · exact ⟨_, h⟩
theorem vague_wpOp {I : Imm} {L : Own} {Q : Exit → Act → World → Prop} {i : Nat} {o : Oper} {V : Value → Prop} {a : Act} (hi : ops[i]? = some o) (h : VagueG P ops I L o V a) {W : World} (hW : Holds I L W) {K : Act → World → Prop}
    (hk : ∀ u, V u → ∀ W', Holds I L W' → K (a.put o.dst u) W') : wpOp P ops Q i K a W := by
  unfold Go.wpOp
  simp only [hi]
  rcases h with ⟨hw, h⟩ | ⟨hw, h⟩
  · simp only [hw, if_true]
    refine .inl ?_
    have := h W hW
    unfold Oper.wp
    generalize (execOp a.eval o).run P W = r at *
    cases r with
    | ok x w' =>
      cases x <;> simp only [upW] at this <;> simp only [Oper.upon]
      case value u => exact hk _ this.1 _ this.2
      case skip => exact hk _ this.1 _ this.2
    | halt x w' => cases this
  · simp only [hw, Bool.false_eq_true, if_false]; exact hk _ h W hW
theorem GQ.first {I : Imm} {L : Own} {Q : Exit → Act → World → Prop} {F : Act → Prop} (hQ : NoExit Q) (ht : tailB ops n = true) (hsel : Region.noSelect ops = true) (hpl : ∀ j oj, ops[j]? = some oj → j < n → plainOp oj.op = true) {i : Nat} {o : Oper} {V : Value → Prop} (hi : ops[i]? = some o) (hin : i < n) :
    ∀ (f : Nat) (listed : Array Bool) (a : Act), HeadInv .any ops n listed →
      (∀ j oj, ops[j]? = some oj → j ≠ i → listed.getD j true = false → (∀ e ∈ oj.after, Region.binds .any e = true → e.on ≠ i) → o.apart ops oj = true) →
      i ∈ Region.ready .any ops listed → VagueG P ops I L o V a →
      (∀ u, V u → GQ P ops Q n F I L f (listed.setIfInBounds i true) (a.put o.dst u)) → GQ P ops Q n F I L (f + 1) listed a := by
  intro f
  induction f with
  | zero =>
    intro listed a inv _ hr hq H W hW
    have hun := (mem_ready.1 hr).1
    refine ⟨fun h => (by rw [h] at hr; cases hr), fun j hj => ⟨tailB_spec ht inv hin hun j hj, ?_⟩⟩
    by_cases hji : j = i
    · subst hji; exact vague_wpOp hi hq hW fun u hu W' hW' => ⟨hW', H u hu⟩
    · obtain ⟨u, hu⟩ := vague_some hq hW
      have := seqB_ready (H u hu).1 j (ready_mono hj hji)
      have := tailB_spec ht inv hin hun j hj
      omega
  | succ f ih =>
    intro listed a inv hfree hr hq H W hW
    have hun := (mem_ready.1 hr).1
    refine ⟨fun h => (by rw [h] at hr; cases hr), fun j hj => ⟨tailB_spec ht inv hin hun j hj, ?_⟩⟩
    by_cases hji : j = i
    · subst hji; exact vague_wpOp hi hq hW fun u hu W' hW' => ⟨hW', H u hu⟩
    · obtain ⟨hjun, oj, hoj, hall⟩ := mem_ready.1 hj
      have hnot : ∀ e ∈ oj.after, Region.binds .any e = true → e.on ≠ i := fun e he hb heq => by
        have h2 := hall e he hb
        rw [heq, getD_both hun] at h2
        cases h2
      have hne := vague_some hq hW
      have h2 := wpOp_all (P := P) hoj (hpl j oj hoj (tailB_spec ht inv hin hun j hj)) hQ hne (fun u hu => wpOp_swap hoj (hfree j oj hoj hji hjun hnot) (fun cs b => Region.noSelect_spec hsel i o cs b hi) (fun cs b => Region.noSelect_spec hsel j oj cs b hoj) hQ ((H u hu W hW).2 j (ready_mono hj hji)).2)
      refine wpOp_mono (fun a' W' hall' => ?_) h2
      obtain ⟨u0, hu0⟩ := hne
      refine ⟨(hall' u0 hu0).2.1, ?_⟩
      refine ih (listed.setIfInBounds j true) a' (inv.set hj (tailB_spec ht inv hin hun j hj)) (fun k ok hk hki hun' hno => hfree k ok hk hki ?_ hno) (ready_mono hr (Ne.symm hji)) (hq.same (hall' u0 hu0).1) (fun u hu => ?_)
      · by_cases hjk : j = k
        · subst hjk; exact hjun
        · rw [getD_set_ne true hjk] at hun'; exact hun'
      · rw [Array.setIfInBounds_comm _ _ hji]; exact (hall' u hu).2.2
end
def plainB (ops : Array Oper) (n : Nat) : Bool := (ops.toList.take n).all fun o => plainOp o.op
theorem plainB_spec {ops : Array Oper} {n : Nat} (h : plainB ops n = true) : ∀ j oj, ops[j]? = some oj → j < n → plainOp oj.op = true := fun j oj hj hn => by
  refine List.all_eq_true.1 h oj ?_
  rw [List.mem_take_iff_getElem]
  obtain ⟨hs, he⟩ := Array.getElem?_eq_some_iff.1 hj
  exact ⟨j, by simp; omega, by simpa using he⟩
def GQt (D : Dr) (I : Imm) (L : Own) (s : List (Nat × Bool)) (t : Array Value) : Prop :=
  tailB D.ops D.n = true → Region.noSelect D.ops = true → plainB D.ops D.n = true → ∀ listed, HeadInv .any D.ops D.n listed → schedOk D.ops D.n listed s = true → GQ D.P D.ops (liftQ (normalQ D.T)) D.n (fun a => D.F a I L) I L s.length listed ⟨t, []⟩
def GQk (D : Dr) (s : List (Nat × Bool)) (K : KV) (I : Imm) (L : Own) : Prop := ∀ t, Knows D.N K t → GQt D I L s t
section
variable {K : KV} {I I0 : Imm} {L L0 : Own} {D : Dr} {s : List (Nat × Bool)}
theorem gd_ofQ (hp : plainB D.ops D.n = true) (hL : ∀ p ∈ L0, p ∈ L) (h : GQk D s K I L) : GDk D I L0 s K I L := fun t ht h1 h2 _ listed inv hs => GQ.toGG hL _ _ _ (h t ht h1 h2 hp listed inv hs)
theorem gq_done {P : Program} {N : Nat} {ops : Array Oper} {n : Nat} {T : TPost} {S : List Nat} {Ls : Own} (h : GLk P ops n N K I L T) : GQk ⟨P, ops, n, N, T, S, Ls, glTl P ops n T⟩ [] K I L := fun t ht _ _ _ listed inv hs => ⟨hs, rfl, h t ht⟩
theorem gq_pick (l : List Nat) {K' : KV} (hp : kvPick l K = some K') (k : GQk D s K' I L) : GQk D s K I L := fun t ht => k t (ht.pick hp)
theorem gq_first {i : Nat} (V : Value → Prop) (hq : ∀ t, Knows D.N K t → VagueG D.P D.ops I L (opAt D.ops i) (fun u => V u ∧ GQt D I L s (((Act.mk t []).put (opAt D.ops i).dst u).tmps)) ⟨t, []⟩) : GQk D ((i, true) :: s) K I L := by
  intro t ht h1 h2 hp listed inv hs
  simp only [schedOk, cond_true, Bool.and_eq_true] at hs
  obtain ⟨⟨hin, hr, hf⟩, hs⟩ := hs
  have hin' : i < D.n := Nat.le_of_ble_eq_true hin
  have hr' : i ∈ Region.ready .any D.ops listed := by simpa using hr
  obtain ⟨_, o, ho, _⟩ := mem_ready.1 hr'
  have hsz : i < D.ops.size := (Array.getElem?_eq_some_iff.1 ho).1
  have ho' := getD_opAt hsz
  refine GQ.first (noExit_lift _) h1 h2 (plainB_spec hp) ho' hin' s.length listed ⟨t, []⟩ inv (Region.free_spec ho' hf) hr' (hq t ht) fun u hu => ?_
  have := hu.2 h1 h2 hp _ (inv.set hr' hin') hs
  have e : (Act.mk t []).put (opAt D.ops i).dst u = ⟨((Act.mk t []).put (opAt D.ops i).dst u).tmps, []⟩ := by
    cases (opAt D.ops i).dst <;> rfl
  rw [e]; exact this
def toQ (D : Dr) (I : Imm) (L : Own) (s : List (Nat × Bool)) : TPost := fun t I' L' => I' = I ∧ L' = L ∧ GQt D I L s t
theorem gq_step {i : Nat} (hw : kvWanted D.ops K (opAt D.ops i) = some true) (hpl : plainOp (opAt D.ops i).op = true) (h : GLk D.P (bare D.ops i) 0 D.N K I L (toQ D I L s)) : GQk D ((i, true) :: s) K I L := by
  refine gq_first (fun _ => True) fun t ht => .inl ⟨kvWanted_sound ht hw, fun W hW => ?_⟩
  have h3 := h t ht W hW
  have h4 : (opAt D.ops i).wp D.P ⟨t, []⟩ W (wpList D.P (bare D.ops i) (liftQ (normalQ (toQ D I L s))) []) (liftQ (normalQ (toQ D I L s))) := Or.resolve_right h3 fun hx => (noExit_lift _).lets hx.2
  have hno := plain_no (P := D.P) hpl (Act.mk t []).eval W
  have hQ := noExit_lift (toQ D I L s)
  have hok : ∀ {u : Value} {W' : World}, liftQ (normalQ (toQ D I L s)) .normal ((Act.mk t []).put (opAt D.ops i).dst u) W' → (True ∧ GQt D I L s (((Act.mk t []).put (opAt D.ops i).dst u).tmps)) ∧ Holds I L W' := by
    rintro u W' ⟨_, I', L', hh, rfl, rfl, hg⟩
    exact ⟨⟨trivial, hg⟩, hh⟩
  unfold Oper.wp at h4
  generalize (execOp (Act.mk t []).eval (opAt D.ops i)).run D.P W = r at *
  cases r with
  | ok x w' =>
    cases x <;> simp only [Oper.upon] at h4 <;> simp only [upW]
    case value u => exact hok h4
    case skip => exact hok h4
    case defer d => obtain ⟨hx, _⟩ := h4; cases hdd : (opAt D.ops i).dst <;> rw [hdd] at hx <;> simp [Act.put] at hx
    case enter f args => cases hno
    case row row args => cases hno
  | halt x w' =>
    cases x <;> simp only [Oper.upon] at h4 <;> simp only [upW]
    case panic u => cases hQ _ _ _ h4
theorem gq_end {ops : Array Oper} {k : Nat} (hk : Nat.ble ops.size k = true) (h : GQk D s K I L) : GLk D.P ops k D.N K I L (toQ D I L s) := gl_done (fun t ht => ⟨rfl, rfl, h t ht⟩) hk
theorem gq_val {i : Nat} {v : Value} (hd : dstOk D.N (opAt D.ops i).dst = true) (hq : ∀ t, Knows D.N K t → VagueG D.P D.ops I L (opAt D.ops i) (fun u => u = v) ⟨t, []⟩) (kk : GQk D s (kvPut K (opAt D.ops i).dst v) I L) : GQk D ((i, true) :: s) K I L := by
  refine gq_first (fun _ => True) fun t ht => ?_
  have hg := kk _ (ht.put (opAt D.ops i).dst v fun j hj => by rw [hj] at hd; exact Nat.le_of_ble_eq_true hd)
  have hg' : GQt D I L s (((Act.mk t []).put (opAt D.ops i).dst v).tmps) := by
    rw [act_put_nil]; exact hg
  rcases hq t ht with ⟨hw, h⟩ | ⟨hw, h⟩
  · refine .inl ⟨hw, fun W hW => ?_⟩
    have := h W hW
    generalize (execOp (Act.mk t []).eval (opAt D.ops i)).run D.P W = r at *
    cases r with
    | ok x w' =>
      cases x <;> simp only [upW] at this ⊢
      case value u => obtain ⟨rfl, h2⟩ := this; exact ⟨⟨trivial, hg'⟩, h2⟩
      case skip => obtain ⟨rfl, h2⟩ := this; exact ⟨⟨trivial, hg'⟩, h2⟩
    | halt x w' => cases this
  · exact .inr ⟨hw, trivial, by rw [h]; exact hg'⟩
theorem gq_run (m : Nat) {K' : KV} {s' : List (Nat × Bool)} (h : runD D.P D.ops D.N m s K = some (K', s')) (kk : GQk D s' K' I L) : GQk D s K I L := by
  induction m generalizing s K with
  | zero => simp only [runD, Option.some.injEq, Prod.mk.injEq] at h; obtain ⟨rfl, rfl⟩ := h; exact kk
  | succ m ih =>
    unfold runD at h
    split at h <;> try (cases h; done)
    rename_i i s
    split at h
    · rename_i hw
      cases hb : (kvKnown K (opAt D.ops i) && dstOk D.N (opAt D.ops i).dst) with
      | false => rw [hb] at h; cases h
      | true =>
        rw [hb] at h
        simp only [cond_true] at h
        split at h <;> try (cases h; done)
        rename_i v hv
        simp only [Bool.and_eq_true] at hb
        refine gq_val (v := v) hb.2 (fun t ht => .inl ⟨kvWanted_sound ht hw, fun W hW => ?_⟩) (ih h)
        rw [kvKnown_exec ht hb.1, pureVal_sound hv W]
        exact ⟨rfl, hW⟩
    · rename_i hw
      cases hd : dstOk D.N (opAt D.ops i).dst with
      | false => rw [hd] at h; cases h
      | true => rw [hd] at h; exact gq_val hd (fun t ht => .inr ⟨kvWanted_sound ht hw, rfl⟩) (ih h)
    · cases h
theorem gq_pure (m : Nat) (l : List Nat) {K' : KV} {s' : List (Nat × Bool)} (h : runDP D.P D.ops D.N m s K l = some (K', s')) (kk : GQk D s' K' I L) : GQk D s K I L := by
  unfold runDP at h
  split at h <;> try (cases h; done)
  rename_i K1 s1 h1
  split at h <;> try (cases h; done)
  rename_i K2 h2
  simp only [Option.some.injEq, Prod.mk.injEq] at h
  obtain ⟨rfl, rfl⟩ := h
  exact gq_run m h1 (gq_pick l h2 kk)
end
end Go.GB
/- Deep rows: rows of the call's own whose elements' own rows are the call's own too. -/
set_option linter.unusedVariables false
set_option linter.unusedSimpArgs false
namespace Go.GB
open Go.RowKit
def Kd.raw (n : Nat) : Kd (List Value) := ⟨n, fun _ x cs => cs = x ∧ x.length = n ∧ ∀ v ∈ x, v.oneCell' = true, fun ⟨h, hl, _⟩ => by rw [h]; exact hl, fun ⟨h, _, ho⟩ c hc => ho c (by rw [h] at hc; exact hc), fun _ h => h⟩
structure KD (E : Type) where
  k0 : Kd E
  R : Imm → E → List Value → Own → Prop
  len : ∀ {I x cs C}, R I x cs C → cs.length = k0.n
  one : ∀ {I x cs C}, R I x cs C → ∀ c ∈ cs, c.oneCell' = true
  mono : ∀ {I J x cs C}, I ≤ J → R I x cs C → R J x cs C
  rest : ∀ {I J x cs C}, I ≤ J → Has J C → R I x cs C → k0.R J x cs
def KD.sl {α : Type} (d : Kd α) (e : TypeId) : KD (List α) where
  k0 := Kd.sl d
  R := fun I xs cs C => ∃ A c, cs = [.slice A xs.length c] ∧ OwnS d e I A c xs C
  len := fun ⟨_, _, h, _⟩ => by rw [h]; rfl
  one := fun ⟨_, _, h, _⟩ c hc => by rw [h] at hc; simp at hc; rw [hc]; rfl
  mono := fun hI ⟨A, c, h, hO⟩ => ⟨A, c, h, hO.mono hI⟩
  rest := fun hI hC ⟨A, c, h, hO⟩ => ⟨A, c, h, hO.rest hI hC⟩
structure InS {E : Type} (kd : KD E) (I : Imm) (xs : List E) (css : List (List Value)) (Cs : List Own) : Prop where
  l1 : css.length = xs.length
  l2 : Cs.length = xs.length
  at_ : ∀ (i : Nat) (x : E), xs[i]? = some x → ∃ cs C, css[i]? = some cs ∧ Cs[i]? = some C ∧ kd.R I x cs C
def OwnD {E : Type} (kd : KD E) (e : TypeId) (I : Imm) (A : Option Addr) (c : Nat) (xs : List E) (C : Own) : Prop :=
  ∃ css Cs C0, C = C0 ++ Cs.flatten ∧ OwnS (Kd.raw kd.k0.n) e I A c css C0 ∧ InS kd I xs css Cs
structure InH {E : Type} (kd : KD E) (I : Imm) (xs : List E) (i : Nat) (css : List (List Value)) (Cs : List Own) : Prop where
  l1 : css.length = xs.length
  l2 : Cs.length = xs.length
  at_ : ∀ (j : Nat) (x : E), j ≠ i → xs[j]? = some x → ∃ cs C, css[j]? = some cs ∧ Cs[j]? = some C ∧ kd.R I x cs C
def OwnH {E : Type} (kd : KD E) (e : TypeId) (I : Imm) (A : Option Addr) (c : Nat) (xs : List E) (i : Int) (cs : List Value) (C : Own) : Prop :=
  ∃ css Cs C0, C = C0 ++ (Cs.set i.toNat []).flatten ∧ OwnS (Kd.raw kd.k0.n) e I A c css C0 ∧ InH kd I xs i.toNat css Cs ∧ ix css i = some cs
section
variable {E : Type} {kd : KD E} {e : TypeId} {I J : Imm} {A : Option Addr} {c : Nat} {xs : List E} {C : Own} {i : Int} {x : E} {cs : List Value}
theorem OwnD.nil (kd : KD E) (e : TypeId) (I : Imm) : OwnD kd e I none 0 [] [] := ⟨[], [], [], rfl, OwnS.nil _ _ _ _, rfl, rfl, fun i x h => by simp at h⟩
theorem OwnD.mono (h : OwnD kd e I A c xs C) (hI : I ≤ J) : OwnD kd e J A c xs C := by
  obtain ⟨css, Cs, C0, h1, h2, h3⟩ := h
  exact ⟨css, Cs, C0, h1, h2.mono hI, h3.l1, h3.l2, fun i x hx => let ⟨cs, C, q1, q2, q3⟩ := h3.at_ i x hx; ⟨cs, C, q1, q2, kd.mono hI q3⟩⟩
theorem OwnH.mono (h : OwnH kd e I A c xs i cs C) (hI : I ≤ J) : OwnH kd e J A c xs i cs C := by
  obtain ⟨css, Cs, C0, h1, h2, h3, h4⟩ := h
  exact ⟨css, Cs, C0, h1, h2.mono hI, ⟨h3.l1, h3.l2, fun j x hj hx => let ⟨cs, C, q1, q2, q3⟩ := h3.at_ j x hj hx; ⟨cs, C, q1, q2, kd.mono hI q3⟩⟩, h4⟩
theorem OwnD.lenc (h : OwnD kd e I A c xs C) : xs.length ≤ c := by
  obtain ⟨css, Cs, C0, h1, h2, h3⟩ := h
  rw [← h3.l1]; exact h2.lenc
theorem OwnD.max (h : OwnD kd e I A c xs C) : xs.length ≤ maxLen' := by
  obtain ⟨css, Cs, C0, h1, h2, h3⟩ := h
  rw [← h3.l1]; exact h2.max
theorem flatten_set : ∀ (Cs : List Own) (i : Nat) (Ck : Own), Cs[i]? = some Ck → Cs.flatten.Perm ((Cs.set i []).flatten ++ Ck)
  | [], i, Ck, h => by simp at h
  | C :: Cs, 0, Ck, h => by
    simp only [List.getElem?_cons_zero, Option.some.injEq] at h
    subst h
    simpa using List.perm_append_comm
  | C :: Cs, i + 1, Ck, h => by
    have := flatten_set Cs i Ck (by simpa using h)
    simp only [List.flatten_cons, List.set_cons_succ, List.append_assoc]
    exact this.append_left C
theorem OwnD.rest (h : OwnD kd e I A c xs C) (hI : I ≤ J) (hC : Has J C) : RepS kd.k0 J A c xs := by
  obtain ⟨css, Cs, C0, rfl, h2, h3⟩ := h
  have hr := h2.rest hI hC.left
  refine ⟨by rw [← h3.l1]; exact hr.le, by rw [← h3.l1]; exact hr.max, fun j x hx => ?_⟩
  obtain ⟨cs, Cj, q1, q2, q3⟩ := h3.at_ j x hx
  obtain ⟨a, cs', ha, ⟨rfl, _, _⟩, hrun⟩ := hr.at_ j cs q1
  refine ⟨a, _, ha, kd.rest hI (fun p hp => hC.right p ?_) q3, hrun⟩
  exact List.mem_flatten.2 ⟨Cj, List.mem_of_getElem? q2, hp⟩
theorem OwnD.take (h : OwnD kd e I A c xs C) (hx : ix xs i = some x) : ∃ cs Ck CH, kd.R I x cs Ck ∧ OwnH kd e I A c xs i cs CH ∧ C.Perm (CH ++ Ck) := by
  obtain ⟨css, Cs, C0, rfl, h2, h3⟩ := h
  obtain ⟨h0, h1, hx'⟩ := ix_some hx
  obtain ⟨cs, Ck, q1, q2, q3⟩ := h3.at_ _ x hx'
  refine ⟨cs, Ck, C0 ++ (Cs.set i.toNat []).flatten, q3, ⟨css, Cs, C0, rfl, h2, ⟨h3.l1, h3.l2, fun j y _ hy => h3.at_ j y hy⟩, by unfold ix; rw [if_pos h0]; exact q1⟩, ?_⟩
  rw [List.append_assoc]
  exact (flatten_set Cs _ _ q2).append_left C0
theorem OwnH.at_ (h : OwnH kd e I A c xs i cs C) : ∃ p, (∀ I' L', (∀ q ∈ C, q ∈ L') → AtL I' L' p cs) ∧ (∃ a, A = some a ∧ p = a.add (i.toNat * kd.k0.n)) ∧ ∃ g, A = some ⟨g, 0, none⟩ ∧ p = (⟨g, 0, none⟩ : Addr).add (i.toNat * kd.k0.n) := by
  obtain ⟨css, Cs, C0, rfl, h2, h3, h4⟩ := h
  obtain ⟨p, cs', ⟨rfl, _, _⟩, hA, ha, hg⟩ := OwnS.ixAtG h4 h2
  exact ⟨p, fun I' L' hC => hA I' L' (fun q hq => hC q (List.mem_append_left _ hq)), ha, hg⟩
theorem OwnH.inC {CH Ck : Own} {p : Addr} (hp : C.Perm (CH ++ Ck)) (hA : ∀ I' L', (∀ q ∈ CH, q ∈ L') → AtL I' L' p cs) (I' : Imm) (L' : Own) (hC : ∀ q ∈ C, q ∈ L') : AtL I' L' p cs :=
  hA I' L' fun q hq => hC q (hp.mem_iff.2 (List.mem_append_left _ hq))
theorem OwnH.fill (h : OwnH kd e I A c xs i cs C) {x' : E} {Ck : Own} (hR : kd.R I x' cs Ck) : ∃ C', (C ++ Ck).Perm C' ∧ OwnD kd e I A c (lset xs i x') C' := by
  obtain ⟨css, Cs, C0, rfl, h2, h3, h4⟩ := h
  obtain ⟨h0, h1, h5⟩ := ix_some h4
  have hlt : i.toNat < Cs.length := by rw [h3.l2, ← h3.l1]; exact (List.getElem?_eq_some_iff.1 h5).1
  refine ⟨C0 ++ (Cs.set i.toNat Ck).flatten, ?_, css, Cs.set i.toNat Ck, C0, rfl, h2, ?_⟩
  · rw [List.append_assoc]
    refine List.Perm.append_left C0 ?_
    have := flatten_set (Cs.set i.toNat Ck) i.toNat Ck (by simp [hlt])
    rw [List.set_set] at this
    exact this.symm
  · refine ⟨by rw [lset, List.length_set]; exact h3.l1, by rw [lset, List.length_set, List.length_set]; exact h3.l2, fun j y hy => ?_⟩
    unfold lset at hy
    rw [List.getElem?_set] at hy
    by_cases hj : i.toNat = j
    · subst hj
      rw [if_pos rfl] at hy
      split at hy <;> cases hy
      exact ⟨cs, Ck, h5, by simp [hlt], hR⟩
    · rw [if_neg hj] at hy
      obtain ⟨cs', C', q1, q2, q3⟩ := h3.at_ j y (Ne.symm hj) hy
      exact ⟨cs', C', q1, by rw [List.getElem?_set_ne hj]; exact q2, q3⟩
section
variable {P : Program} {ops : Array Oper} {k N : Nat} {K : KV} {L R : Own} {T : TPost}
theorem gl_perm {L' : Own} (hp : L.Perm L') (kk : GLk P ops k N K I L' T) : GLk P ops k N K I L T := gl_conseq (fun W h => h.perm hp) kk
theorem gl_split {CH Ck : Own} (hp : C.Perm (CH ++ Ck)) (kk : GLk P ops k N K I (CH ++ (Ck ++ R)) T) : GLk P ops k N K I (C ++ R) T :=
  gl_perm (by rw [← List.append_assoc]; exact hp.append_right R) kk
theorem gl_storeD {T' : TypeId} {xp xv : Operand} {off : Nat} {p : Addr} {v : Value} {CH Ck : Own} {x' : E} (hH : OwnH kd e I A c xs i cs CH) (hR : kd.R I x' (putL cs off v.cells.toList) Ck) (hp : ∃ g, A = some ⟨g, 0, none⟩ ∧ p = (⟨g, 0, none⟩ : Addr).add (i.toNat * kd.k0.n))
    (ho : (opAt ops k).op = .store T' xp xv) (h : readyKV ops k N K = true) (hk : kvOp K xp = some (.pointer (some (p.add off)))) (hv : kvOp K xv = some v) (hs : storeOk P T' v = true) (hd : (opAt ops k).dst = none) (hn : Nat.ble (off + v.cells.size) kd.k0.n = true)
    (kk : ∀ C', OwnD kd e I A c (lset xs i x') C' → GLk P ops (k + 1) N K I (C' ++ R) T) : GLk P ops k N K I (CH ++ (Ck ++ R)) T := by
  obtain ⟨css, Cs, C0, rfl, h2, h3, h4⟩ := hH
  rw [List.append_assoc]
  have hlen := kd.len hR
  have hone := kd.one hR
  refine gl_storeE (d := Kd.raw kd.k0.n) (x := cs) (y := putL cs off v.cells.toList) (fun X => X ++ ((Cs.set i.toNat []).flatten ++ (Ck ++ R))) h4 h2 (fun X => Upd.head _ X _) hp ho h hk hv hs hd (fun cs' ⟨q1, q2, q3⟩ => ?_) hn (fun C1 hO1 => ?_)
  · subst q1
    exact ⟨rfl, hlen, hone⟩
  · obtain ⟨h0, h1, h5⟩ := ix_some h4
    have hlt : i.toNat < css.length := (List.getElem?_eq_some_iff.1 h5).1
    have hH2 : OwnH kd e I A c xs i (putL cs off v.cells.toList) (C1 ++ (Cs.set i.toNat []).flatten) :=
      ⟨lset css i (putL cs off v.cells.toList), Cs, C1, rfl, hO1, ⟨by rw [lset, List.length_set]; exact h3.l1, h3.l2, fun j y hj hy => by
        obtain ⟨cs', C', q1, q2, q3⟩ := h3.at_ j y hj hy
        exact ⟨cs', C', by rw [lset, List.getElem?_set_ne (Ne.symm hj)]; exact q1, q2, q3⟩⟩, by unfold ix lset; rw [if_pos h0]; simp [hlt]⟩
    obtain ⟨C', hp', hO'⟩ := hH2.fill hR
    refine gl_perm ?_ (kk C' hO')
    have := hp'.append_right R
    simpa [List.append_assoc] using this
theorem gl_appendD {t tx : TypeId} {s x : Operand} {xv : Value} {y : E} {zs : List E} {cy : List Value} {Cy : Own} (hz : app xs [y] = some zs)
    (ho : (opAt ops k).op = .call { callee := .builtin .append, args := #[s, x], argTypes := #[t, tx] }) (h : readyKV ops k N K = true)
    (hs : kvOp K s = some (.slice A xs.length c)) (hx : kvOp K x = some xv) (he : sliceElem P t = some (e, kd.k0.n)) (hinfo : elemInfo P e kd.k0.n = true)
    (hO : OwnD kd e I A c xs C) (hy : kd.R I y cy Cy) (hsrc : SrcOk P (Kd.raw kd.k0.n) I (C ++ (Cy ++ R)) tx xv [cy])
    (kk : ∀ A' c' C', OwnD kd e I A' c' zs C' → GLk P ops (k + 1) N (kvPut K (opAt ops k).dst (.slice A' zs.length c')) I (C' ++ R) T) : GLk P ops k N K I (C ++ (Cy ++ R)) T := by
  obtain ⟨css, Cs, C0, rfl, h2, h3⟩ := hO
  obtain ⟨rfl, hmax⟩ := app_some hz
  have hzc : app css [cy] = some (css ++ [cy]) := by
    unfold app
    rw [if_pos (by rw [List.length_append, h3.l1]; simpa using hmax)]
  rw [← h3.l1] at hs
  rw [List.append_assoc] at hsrc ⊢
  refine gl_append (d := Kd.raw kd.k0.n) (fun X => X ++ (Cs.flatten ++ (Cy ++ R))) hzc ho h hs hx he hinfo (fun X => Upd.head _ X _) h2 hsrc (fun A' c' C1 hO1 => ?_)
  have hlen : (css ++ [cy]).length = (xs ++ [y]).length := by simp [h3.l1]
  rw [hlen]
  refine gl_perm ?_ (kk A' c' (C1 ++ (Cs ++ [Cy]).flatten) ⟨css ++ [cy], Cs ++ [Cy], C1, rfl, hO1, ⟨hlen, by simp [h3.l2], fun j z hz => ?_⟩⟩)
  · simp [List.append_assoc]
  · by_cases hj : j < xs.length
    · rw [List.getElem?_append_left hj] at hz
      obtain ⟨cs, C, q1, q2, q3⟩ := h3.at_ j z hz
      exact ⟨cs, C, by rw [List.getElem?_append_left (by rw [h3.l1]; exact hj)]; exact q1, by rw [List.getElem?_append_left (by rw [h3.l2]; exact hj)]; exact q2, q3⟩
    · rw [List.getElem?_append_right (by omega)] at hz
      have hj0 : j - xs.length = 0 := by have := (List.getElem?_eq_some_iff.1 hz).1; simpa using this
      rw [hj0] at hz
      simp only [List.getElem?_cons_zero, Option.some.injEq] at hz
      subst hz
      exact ⟨cy, Cy, by rw [List.getElem?_append_right (by rw [h3.l1]; omega), h3.l1, hj0]; rfl, by rw [List.getElem?_append_right (by rw [h3.l2]; omega), h3.l2, hj0]; rfl, hy⟩
end
end
end Go.GB
set_option linter.unusedVariables false
set_option linter.unusedSimpArgs false
namespace Go.GB
open Go.RowKit
def KD.pairR {α β : Type} (d : Kd α) (kd : KD β) : KD (α × β) where
  k0 := Kd.pair d kd.k0
  R := fun I x cs C => ∃ ca cb, cs = ca ++ cb ∧ d.R I x.1 ca ∧ kd.R I x.2 cb C
  len := fun ⟨ca, cb, h, ha, hb⟩ => by rw [h, List.length_append, d.len ha, kd.len hb]; rfl
  one := fun ⟨ca, cb, h, ha, hb⟩ c hc => by rw [h] at hc; rcases List.mem_append.1 hc with hc | hc; exact d.one ha c hc; exact kd.one hb c hc
  mono := fun hI ⟨ca, cb, h, ha, hb⟩ => ⟨ca, cb, h, d.mono hI ha, kd.mono hI hb⟩
  rest := fun hI hC ⟨ca, cb, h, ha, hb⟩ => ⟨ca, cb, h, d.mono hI ha, kd.rest hI hC hb⟩
def KD.iso {α β : Type} (kd : KD β) (f : α → β) : KD α where
  k0 := Kd.iso kd.k0 f
  R := fun I x cs C => kd.R I (f x) cs C
  len := fun h => kd.len h
  one := fun h => kd.one h
  mono := fun hI h => kd.mono hI h
  rest := fun hI hC h => kd.rest hI hC h
section
variable {E α β : Type} {d : Kd α} {d2 : Kd β} {e2 : TypeId} {f : E → List α × List β} {I : Imm} {x : E} {cs : List Value} {C : Own}
theorem KD.part_open (h : (KD.iso (KD.pairR (Kd.sl d) (KD.sl d2 e2)) f).R I x cs C) : ∃ A1 n1 A2 n2, cs = [.slice A1 (f x).1.length n1, .slice A2 (f x).2.length n2] ∧ RepS d I A1 n1 (f x).1 ∧ OwnS d2 e2 I A2 n2 (f x).2 C := by
  obtain ⟨ca, cb, rfl, ⟨A1, n1, rfl, h1⟩, A2, n2, rfl, h2⟩ := h
  exact ⟨A1, n1, A2, n2, rfl, h1, h2⟩
theorem KD.part_mk {A1 A2 : Option Addr} {n1 n2 : Nat} (h1 : RepS d I A1 n1 (f x).1) (h2 : OwnS d2 e2 I A2 n2 (f x).2 C) : (KD.iso (KD.pairR (Kd.sl d) (KD.sl d2 e2)) f).R I x [.slice A1 (f x).1.length n1, .slice A2 (f x).2.length n2] C :=
  ⟨_, _, rfl, ⟨A1, n1, rfl, h1⟩, A2, n2, rfl, h2⟩
end
def MV1 {E : Type} (kd : KD E) (e : TypeId) (I : Imm) (A : Option Addr) (c : Nat) (xs : List E) (b : Int) (An : Option Addr) (cn : Nat) (zs : List E) (Co Cn : Own) : Prop :=
  ∃ css Cs C0, Co = C0 ++ Cs.flatten ∧ OwnS (Kd.raw kd.k0.n) e I A c css C0 ∧ InS kd I xs css Cs ∧ 0 ≤ b ∧ b ≤ (xs.length : Int) ∧ zs = xs.take b.toNat ∧ OwnS (Kd.raw kd.k0.n) e I An cn (css.take b.toNat) Cn
def MV2 {E : Type} (kd : KD E) (e : TypeId) (I : Imm) (A : Option Addr) (c : Nat) (xs : List E) (b : Int) (An : Option Addr) (cn : Nat) (zs : List E) (Co Cn : Own) : Prop :=
  ∃ css Cs C0 y cy Cy Cn0, Co = C0 ++ Cs.flatten ∧ Cn = Cn0 ++ Cy ∧ OwnS (Kd.raw kd.k0.n) e I A c css C0 ∧ InS kd I xs css Cs ∧ 0 ≤ b ∧ b ≤ (xs.length : Int) ∧ zs = xs.take b.toNat ++ [y] ∧ OwnS (Kd.raw kd.k0.n) e I An cn (css.take b.toNat ++ [cy]) Cn0 ∧ kd.R I y cy Cy
section
variable {E : Type} {kd : KD E} {e : TypeId} {I J : Imm} {A An : Option Addr} {c cn : Nat} {xs zs : List E} {b : Int} {Co Cn : Own}
theorem InS.mono {css : List (List Value)} {Cs : List Own} (h : InS kd I xs css Cs) (hI : I ≤ J) : InS kd J xs css Cs := ⟨h.l1, h.l2, fun i x hx => let ⟨cs, C, q1, q2, q3⟩ := h.at_ i x hx; ⟨cs, C, q1, q2, kd.mono hI q3⟩⟩
theorem MV1.mono (h : MV1 kd e I A c xs b An cn zs Co Cn) (hI : I ≤ J) : MV1 kd e J A c xs b An cn zs Co Cn := by
  obtain ⟨css, Cs, C0, h1, h2, h3, h4, h5, h6, h7⟩ := h
  exact ⟨css, Cs, C0, h1, h2.mono hI, h3.mono hI, h4, h5, h6, h7.mono hI⟩
theorem MV2.mono (h : MV2 kd e I A c xs b An cn zs Co Cn) (hI : I ≤ J) : MV2 kd e J A c xs b An cn zs Co Cn := by
  obtain ⟨css, Cs, C0, y, cy, Cy, Cn0, h1, h2, h3, h4, h5, h6, h7, h8, h9⟩ := h
  exact ⟨css, Cs, C0, y, cy, Cy, Cn0, h1, h2, h3.mono hI, h4.mono hI, h5, h6, h7, h8.mono hI, kd.mono hI h9⟩
theorem MV2.lenc (h : MV2 kd e I A c xs b An cn zs Co Cn) : xs.length ≤ c := by
  obtain ⟨css, Cs, C0, y, cy, Cy, Cn0, h1, h2, h3, h4, h5, h6, h7, h8, h9⟩ := h
  rw [← h4.l1]; exact h3.lenc
theorem MV2.view {l' : List E} {a : Int} (hx : lx xs a (xs.length : Int) = some l') (h : MV2 kd e I A c xs b An cn zs Co Cn) : ViewS kd.k0.n A (viewA A a kd.k0.n c) a l'.length := by
  obtain ⟨css, Cs, C0, y, cy, Cy, Cn0, h1, h2, h3, h4, h5, h6, h7, h8, h9⟩ := h
  unfold lx at hx
  split at hx <;> try (cases hx; done)
  rename_i hb
  obtain ⟨b0, b1, b2⟩ := hb
  cases hx
  have hlc : lx css a (css.length : Int) = some ((css.take ((css.length : Int)).toNat).drop a.toNat) := by
    unfold lx
    rw [if_pos ⟨b0, by rw [h4.l1]; exact b1, Int.le_refl _⟩]
  have := OwnS.view (d := Kd.raw kd.k0.n) hlc h3
  have e : ((css.take ((css.length : Int)).toNat).drop a.toNat).length = ((xs.take ((xs.length : Int)).toNat).drop a.toNat).length := by rw [List.length_drop, List.length_drop, List.length_take, List.length_take, h4.l1]
  rw [e] at this
  exact this
theorem lx_spec {α : Type} {l l' : List α} {a b : Int} (h : lx l a b = some l') : 0 ≤ a ∧ a ≤ b ∧ b ≤ (l.length : Int) ∧ l' = (l.take b.toNat).drop a.toNat := by
  unfold lx at h
  split at h
  · rename_i hb
    cases h
    exact ⟨hb.1, hb.2.1, hb.2.2, rfl⟩
  · cases h
section
variable {P : Program} {ops : Array Oper} {k N : Nat} {K : KV} {R : Own} {T : TPost}
theorem gl_mv1 {t tx : TypeId} {s x : Operand} {l' : List E} {C : Own} (hl : lx xs 0 b = some l') (hz : app [] l' = some zs)
    (ho : (opAt ops k).op = .call { callee := .builtin .append, args := #[s, x], argTypes := #[t, tx] }) (h : readyKV ops k N K = true)
    (hs : kvOp K s = some (.slice none 0 0)) (hx : kvOp K x = some (.slice A l'.length c)) (he : sliceElem P t = some (e, kd.k0.n)) (htx : sliceElem P tx = some (e, kd.k0.n)) (hinfo : elemInfo P e kd.k0.n = true)
    (hO : OwnD kd e I A c xs C)
    (kk : ∀ A' c' Co Cn, MV1 kd e I A c xs b A' c' zs Co Cn → GLk P ops (k + 1) N (kvPut K (opAt ops k).dst (.slice A' zs.length c')) I (Cn ++ (Co ++ R)) T) : GLk P ops k N K I (C ++ R) T := by
  obtain ⟨css, Cs, C0, rfl, h2, h3⟩ := hO
  obtain ⟨_, b0, b1, hl'⟩ := lx_spec hl
  rw [show (0 : Int).toNat = 0 from rfl, List.drop_zero] at hl'
  obtain ⟨hz', hmax⟩ := app_some hz
  rw [List.nil_append] at hz'
  have e1 : (css.take b.toNat).length = l'.length := by rw [hl', List.length_take, List.length_take, h3.l1]
  have hzc : app [] (css.take b.toNat) = some (css.take b.toNat) := by
    unfold app
    rw [if_pos (by rw [List.nil_append, e1, ← hz']; exact hmax)]; rfl
  refine gl_append (d := Kd.raw kd.k0.n) (C := []) (fun X => X ++ ((C0 ++ Cs.flatten) ++ R)) hzc ho h hs hx he hinfo (fun X => Upd.head [] X _) (OwnS.nil _ _ _ _) ?_ (fun A' c' C1 hO1 => ?_)
  · rw [← e1]
    exact SrcOk.slice (e := e) (n := kd.k0.n) (OwnS.rd (h2.take b.toNat) (by rw [List.append_assoc]; exact Upd.head C0 C0 _)) htx
  · rw [e1, ← hz']
    exact kk A' c' _ _ ⟨css, Cs, C0, rfl, h2, h3, b0, b1, by rw [hz', hl'], hO1⟩
theorem gl_mv2 {t tx : TypeId} {s x : Operand} {xv : Value} {y : E} {zs' : List E} {cy : List Value} {Cy : Own} (hz : app zs [y] = some zs')
    (ho : (opAt ops k).op = .call { callee := .builtin .append, args := #[s, x], argTypes := #[t, tx] }) (h : readyKV ops k N K = true)
    (hs : kvOp K s = some (.slice An zs.length cn)) (hx : kvOp K x = some xv) (he : sliceElem P t = some (e, kd.k0.n)) (hinfo : elemInfo P e kd.k0.n = true)
    (hM : MV1 kd e I A c xs b An cn zs Co Cn) (hy : kd.R I y cy Cy) (hsrc : SrcOk P (Kd.raw kd.k0.n) I (Cn ++ (Co ++ (Cy ++ R))) tx xv [cy])
    (kk : ∀ A' c' Cn', MV2 kd e I A c xs b A' c' zs' Co Cn' → GLk P ops (k + 1) N (kvPut K (opAt ops k).dst (.slice A' zs'.length c')) I (Cn' ++ (Co ++ R)) T) : GLk P ops k N K I (Cn ++ (Co ++ (Cy ++ R))) T := by
  obtain ⟨css, Cs, C0, rfl, h2, h3, b0, b1, hzs, h7⟩ := hM
  obtain ⟨rfl, hmax⟩ := app_some hz
  have e1 : (css.take b.toNat).length = zs.length := by rw [hzs, List.length_take, List.length_take, h3.l1]
  have hzc : app (css.take b.toNat) [cy] = some (css.take b.toNat ++ [cy]) := by
    unfold app
    rw [if_pos (by rw [List.length_append, e1]; rw [List.length_append] at hmax; exact hmax)]
  rw [← e1] at hs
  refine gl_append (d := Kd.raw kd.k0.n) (fun X => X ++ ((C0 ++ Cs.flatten) ++ (Cy ++ R))) hzc ho h hs hx he hinfo (fun X => Upd.head _ X _) h7 hsrc (fun A' c' C1 hO1 => ?_)
  have hlen : (css.take b.toNat ++ [cy]).length = (zs ++ [y]).length := by rw [List.length_append, List.length_append, e1]; rfl
  rw [hlen]
  refine gl_perm ?_ (kk A' c' (C1 ++ Cy) ⟨css, Cs, C0, y, cy, Cy, C1, rfl, rfl, h2, h3, b0, b1, by rw [hzs], hO1, hy⟩)
  have hpm : ((C0 ++ Cs.flatten) ++ Cy ++ R).Perm (Cy ++ (C0 ++ Cs.flatten) ++ R) := List.Perm.append_right R List.perm_append_comm
  have := List.Perm.append_left C1 hpm
  simpa [List.append_assoc] using this
theorem InS.take {css : List (List Value)} {Cs : List Own} (h : InS kd I xs css Cs) (n : Nat) : InS kd I (xs.take n) (css.take n) (Cs.take n) := by
  refine ⟨by rw [List.length_take, List.length_take, h.l1], by rw [List.length_take, List.length_take, h.l2], fun i x hx => ?_⟩
  rw [List.getElem?_take] at hx
  split at hx
  · rename_i hi
    obtain ⟨cs, C, q1, q2, q3⟩ := h.at_ i x hx
    exact ⟨cs, C, by rw [List.getElem?_take, if_pos hi]; exact q1, by rw [List.getElem?_take, if_pos hi]; exact q2, q3⟩
  · cases hx
theorem InS.drop {css : List (List Value)} {Cs : List Own} (h : InS kd I xs css Cs) (n : Nat) : InS kd I (xs.drop n) (css.drop n) (Cs.drop n) := by
  refine ⟨by rw [List.length_drop, List.length_drop, h.l1], by rw [List.length_drop, List.length_drop, h.l2], fun i x hx => ?_⟩
  rw [List.getElem?_drop] at hx
  obtain ⟨cs, C, q1, q2, q3⟩ := h.at_ _ x hx
  exact ⟨cs, C, by rw [List.getElem?_drop]; exact q1, by rw [List.getElem?_drop]; exact q2, q3⟩
theorem InS.append {xs' : List E} {css css' : List (List Value)} {Cs Cs' : List Own} (h : InS kd I xs css Cs) (h' : InS kd I xs' css' Cs') : InS kd I (xs ++ xs') (css ++ css') (Cs ++ Cs') := by
  refine ⟨by rw [List.length_append, List.length_append, h.l1, h'.l1], by rw [List.length_append, List.length_append, h.l2, h'.l2], fun i x hx => ?_⟩
  by_cases hi : i < xs.length
  · rw [List.getElem?_append_left hi] at hx
    obtain ⟨cs, C, q1, q2, q3⟩ := h.at_ i x hx
    exact ⟨cs, C, by rw [List.getElem?_append_left (by rw [h.l1]; exact hi)]; exact q1, by rw [List.getElem?_append_left (by rw [h.l2]; exact hi)]; exact q2, q3⟩
  · rw [List.getElem?_append_right (by omega)] at hx
    obtain ⟨cs, C, q1, q2, q3⟩ := h'.at_ _ x hx
    exact ⟨cs, C, by rw [List.getElem?_append_right (by rw [h.l1]; omega), h.l1]; exact q1, by rw [List.getElem?_append_right (by rw [h.l2]; omega), h.l2]; exact q2, q3⟩
theorem InS.one {y : E} {cy : List Value} {Cy : Own} (hy : kd.R I y cy Cy) : InS kd I [y] [cy] [Cy] := by
  refine ⟨rfl, rfl, fun i x hx => ?_⟩
  cases i with
  | zero => simp only [List.getElem?_cons_zero, Option.some.injEq] at hx; subst hx; exact ⟨cy, Cy, rfl, rfl, hy⟩
  | succ i => simp at hx
theorem gl_mv3 {n : Nat} {t tx : TypeId} {s x : Operand} {l' zs' : List E} {A2 : Option Addr} {c2 : Nat} (hl : lx xs b (xs.length : Int) = some l') (hz : app zs l' = some zs')
    (ho : (opAt ops k).op = .call { callee := .builtin .append, args := #[s, x], argTypes := #[t, tx] }) (h : readyKV ops k N K = true)
    (hs : kvOp K s = some (.slice An zs.length cn)) (hx : kvOp K x = some (.slice A2 l'.length c2)) (he : sliceElem P t = some (e, kd.k0.n)) (htx : sliceElem P tx = some (e, kd.k0.n)) (hinfo : elemInfo P e kd.k0.n = true)
    (hV : ViewS kd.k0.n A A2 b l'.length) (hM : MV2 kd e I A c xs b An cn zs Co Cn)
    (kk : ∀ A' c' C', OwnD kd e I A' c' zs' C' → GLk P ops (k + 1) N (kvPut K (opAt ops k).dst (.slice A' zs'.length c')) I (C' ++ R) T) : GLk P ops k N K I (Cn ++ (Co ++ R)) T := by
  obtain ⟨css, Cs, C0, y, cy, Cy, Cn0, rfl, rfl, h2, h3, b0, b1, hzs, h7, hy⟩ := hM
  obtain ⟨_, _, _, hl'⟩ := lx_spec hl
  rw [show ((xs.length : Int)).toNat = xs.length by omega, List.take_length] at hl'
  obtain ⟨rfl, hmax⟩ := app_some hz
  have e1 : (css.take b.toNat ++ [cy]).length = zs.length := by rw [hzs, List.length_append, List.length_append, List.length_take, List.length_take, h3.l1]; rfl
  have e2 : (css.drop b.toNat).length = l'.length := by rw [hl', List.length_drop, List.length_drop, h3.l1]
  have hlc : lx css b (css.length : Int) = some (css.drop b.toNat) := by
    unfold lx
    rw [if_pos ⟨b0, by rw [h3.l1]; exact b1, Int.le_refl _⟩, show ((css.length : Int)).toNat = css.length by omega, List.take_length]
  have hzc : app (css.take b.toNat ++ [cy]) (css.drop b.toNat) = some (css.take b.toNat ++ [cy] ++ css.drop b.toNat) := by
    unfold app
    rw [if_pos (by rw [@List.length_append _ (css.take b.toNat ++ [cy]), e1, e2]; rw [List.length_append] at hmax; exact hmax)]
  rw [← e1] at hs
  rw [← e2] at hx hV
  refine gl_append (d := Kd.raw kd.k0.n) (fun X => X ++ (Cy ++ ((C0 ++ Cs.flatten) ++ R))) hzc ho h hs hx he hinfo (fun X => by rw [List.append_assoc]; exact Upd.head _ X _) h7 (SrcOk.slice (e := e) (n := kd.k0.n) (OwnS.rdT (d := Kd.raw kd.k0.n) hlc hV h2 (by rw [List.append_assoc, List.append_assoc]; exact Upd.app Cn0 (Upd.app Cy (Upd.head C0 C0 _)))) htx) (fun A' c' C1 hO1 => ?_)
  have hlen : (css.take b.toNat ++ [cy] ++ css.drop b.toNat).length = (zs ++ l').length := by rw [@List.length_append _ (css.take b.toNat ++ [cy]), @List.length_append _ zs, e1, e2]
  rw [hlen]
  have hIn := ((h3.take b.toNat).append (InS.one hy)).append (h3.drop b.toNat)
  rw [← hzs, ← hl'] at hIn
  refine gl_drop (L' := C1 ++ (Cy ++ (Cs.flatten ++ R))) ?_ (gl_perm ?_ (kk A' c' (C1 ++ (Cs.take b.toNat ++ [Cy] ++ Cs.drop b.toNat).flatten) ⟨_, _, C1, rfl, hO1, hIn⟩))
  · refine List.Sublist.append_left (List.Sublist.append_left ?_ _) _
    rw [List.append_assoc]
    exact List.sublist_append_right _ _
  · have e3 : Cs.flatten = (Cs.take b.toNat).flatten ++ (Cs.drop b.toNat).flatten := by rw [← List.flatten_append, List.take_append_drop]
    rw [e3, List.flatten_append, List.flatten_append]
    simp only [List.flatten_cons, List.flatten_nil, List.append_nil, List.append_assoc]
    have hpm : (Cy ++ (Cs.take b.toNat).flatten ++ ((Cs.drop b.toNat).flatten ++ R)).Perm ((Cs.take b.toNat).flatten ++ Cy ++ ((Cs.drop b.toNat).flatten ++ R)) := List.Perm.append_right _ List.perm_append_comm
    have := List.Perm.append_left C1 hpm
    simpa [List.append_assoc] using this
end
end
end Go.GB
