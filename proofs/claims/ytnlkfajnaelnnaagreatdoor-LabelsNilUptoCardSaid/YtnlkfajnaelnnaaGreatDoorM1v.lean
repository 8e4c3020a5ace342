/- strings.Builder: copyCheck and String, as calls over owned blocks. -/
import Derived.Test.YtnlkfajnaelnnaaGreatDoorGB12v
import Derived.Laws.MakeOwn
import Derived.Below
import Derived.Shelf.SlSortCmp.NoneTotal
import Derived.Lib.UnsafeStr
import Derived.WideLaws
import Derived.Shelf.Strconv.Itoa4
import Derived.Scope
import Derived.Shelf.Abstract
import Derived.Shelf.RegionOpen
import Derived.Shelf.RegionOpenPlain
import Derived.WalkKit
import Derived.OwnWalkIn
import Derived.TacticsInMore
import Derived.Lib.Builder
import Derived.RangeFuncOwn
import Derived.Laws.Externs
import Derived.Test.YtnlkfajnaelnnaaGreatDoorChecked
/- Strings put together; division. -/
set_option linter.unusedVariables false
namespace Go.GB
def sadd (x y : ByteArray) : Option ByteArray := if x.size + y.size ≤ 9223372036854775807 then some (x ++ y) else none
section
variable {P : Program} {ops : Array Oper} {k N : Nat} {K : KV} {I : Imm} {L : Own} {T : TPost}
theorem gl_sadd {t t' : TypeId} {x y : Operand} {a b r : ByteArray} (hr : sadd a b = some r) (ho : (opAt ops k).op = .binOp .add t x y t') (h : readyKV ops k N K = true)
    (hx : kvOp K x = some (.string a)) (hy : kvOp K y = some (.string b))
    (kk : GLk P ops (k + 1) N (kvPut K (opAt ops k).dst (.string r)) I L T) : GLk P ops k N K I L T := by
  unfold sadd at hr
  split at hr <;> try (cases hr; done)
  rename_i hle
  simp only [Option.some.injEq] at hr
  subst hr
  refine gl_step h (fun tm ht W hW => ?_) kk
  have h1 : ¬ (((a.size + b.size : Nat) : Int) > IntKind.i64.max) := by
    have : IntKind.i64.max = 9223372036854775807 := by decide
    rw [this]; omega
  have h3 : (binOp .add t (.string a) (.string b)).run P W = .ok (.string (a ++ b)) W := by
    show (Op.stringOp .add a b).run P W = _
    unfold Op.stringOp
    simp only [h1, if_false, Sem.run_pure]
  have h2 : (eqGuard .add t x y (.string a) (.string b)).run P W = .ok () W := by simp [eqGuard]
  simp only [execOp, ho, ht.op hx, ht.op hy, Sem.run_bind, h2, h3, Result.andThen_ok, Sem.run_pure]
end
end Go.GB

/- Rows that are made; copies into rows; the head of a row. -/
set_option linter.unusedVariables false
namespace Go.GB
def mkrow {α : Type} (z : α) (n c : Int) : Option (List α) := if 0 ≤ n ∧ n ≤ c ∧ c ≤ 2147483648 then some (List.replicate n.toNat z) else none
theorem mkrow_some {α : Type} {z : α} {n c : Int} {xs : List α} (h : mkrow z n c = some xs) : 0 ≤ n ∧ n ≤ c ∧ c ≤ 2147483648 ∧ xs = List.replicate n.toNat z := by
  unfold mkrow at h
  split at h
  · rename_i hc; cases h; exact ⟨hc.1, hc.2.1, hc.2.2, rfl⟩
  · cases h
def lcopy {α : Type} (xs ys : List α) : List α := ys.take xs.length ++ xs.drop ys.length
theorem lcopy_length {α : Type} (xs ys : List α) : (lcopy xs ys).length = xs.length := by simp [lcopy]; omega
section
variable {P : Program} {ops : Array Oper} {k N : Nat} {K : KV} {I : Imm} {L : Own} {T : TPost}
theorem gl_makeSlice {α : Type} {d : Kd α} {T' e : TypeId} {lx cx : Operand} {n c : Int} {kl kc : IntKind} {z : α} {zc : Array Value} {xs : List α} (hx : mkrow z n c = some xs)
    (ho : (opAt ops k).op = .makeSlice T' lx cx) (h : readyKV ops k N K = true) (hl : kvOp K lx = some (.int kl n)) (hc : kvOp K cx = some (.int kc c)) (he : sliceElem P T' = some (e, d.n)) (hinfo : elemInfo P e d.n = true)
    (hz : zeroCells' P e = some zc) (hR : d.R I z zc.toList)
    (kk : ∀ A C, OwnS d e I A c.toNat xs C → GLk P ops (k + 1) N (kvPut K (opAt ops k).dst (.slice A xs.length c.toNat)) I (C ++ L) T) : GLk P ops k N K I L T := by
  obtain ⟨h0, h1, h2, rfl⟩ := mkrow_some hx
  obtain ⟨hu1, hu2⟩ := sliceElem_spec he
  obtain ⟨ti, zv, hti, hzv, hsz, hzs, hby, hb0, hn0⟩ := elemInfo_spec hinfo
  have hzc : zv.cells = zc := by
    unfold zeroCells' at hz
    rw [hti] at hz
    simp only [hzv, Option.some.injEq] at hz
    exact hz
  refine gl_gen h fun t ht W hW => ?_
  have hbytes : (ti.bytes : Int) * c ≤ 281474976710656 := by
    have : ti.bytes * c.toNat ≤ 8192 * 2147483648 := Nat.mul_le_mul hby (by omega)
    have h3 : ((ti.bytes * c.toNat : Nat) : Int) = (ti.bytes : Int) * c := by rw [Int.natCast_mul]; congr 1; omega
    omega
  have hr := run_make (P := P) W T' e ti zv hu1 hti hzv kl kc n c h0 h1 hbytes (by omega)
  rw [hsz, hzc] at hr
  refine ⟨_, I, [(W.heap.size, Obj.cells (madeCells zc (c.toNat * d.n)) e)] ++ L, _, ?_, hW.new (.cells (madeCells zc (c.toNat * d.n)) e), kk (some ⟨W.heap.size, 0, none⟩) _ (.inr ⟨W.heap.size, _, (0, 0), rfl, rfl, FreeOf.zero _, by rw [List.length_replicate]; omega, size_madeCells _ _, ⟨fun i x hi => ?_⟩, by rw [List.length_replicate]; unfold maxLen'; omega⟩)⟩
  · simp only [execOp, ho, ht.op hl, ht.op hc, hr, Sem.run_bind, Result.andThen_ok, Sem.run_pure, List.length_replicate]; rfl
  · rw [List.getElem?_replicate] at hi
    split at hi <;> try (cases hi; done)
    rename_i hlt
    cases hi
    refine ⟨zc.toList, hR, fun j v hj => ?_⟩
    have hzl : zc.size = d.n := by rw [← hzc]; exact hzs
    have hj' : j < d.n := by have := (List.getElem?_eq_some_iff.1 hj).1; rw [Array.length_toList] at this; omega
    have hb : i * d.n + j < c.toNat * d.n := by
      have : (i + 1) * d.n ≤ c.toNat * d.n := Nat.mul_le_mul_right _ (by omega)
      rw [Nat.add_mul, Nat.one_mul] at this; omega
    have hm : (i * d.n + j) % zc.size = j := by rw [hzl, Nat.mul_comm i, Nat.mul_add_mod]; exact Nat.mod_eq_of_lt hj'
    simp only [madeCells, Array.getElem?_map, Array.getElem?_range, hb, if_true, Option.map_some, hm]
    rw [Array.getElem?_toList] at hj
    rw [getElem!_def, hj]
theorem row_copy {α : Type} {d : Kd α} {I : Imm} {xs ys : List α} {cells : Array Value} {l : List Value} (hx : RowAt d I xs (fun j => cells[j]?)) (hy : RowAt d I ys (fun j => l[j]?)) (hl : l.length = ys.length * d.n) (hc : xs.length * d.n ≤ cells.size) :
    RowAt d I (lcopy xs ys) (fun j => (putSeg cells 0 (l.take (min ys.length xs.length * d.n)))[j]?) := by
  have hml : (l.take (min ys.length xs.length * d.n)).length = min ys.length xs.length * d.n := by
    rw [List.length_take, hl]
    have := Nat.mul_le_mul_right d.n (Nat.min_le_left ys.length xs.length)
    omega
  have hmc : min ys.length xs.length * d.n ≤ cells.size := Nat.le_trans (Nat.mul_le_mul_right d.n (Nat.min_le_right ys.length xs.length)) hc
  have hget := putSeg_get (l.take (min ys.length xs.length * d.n)) cells 0 (by rw [hml]; omega)
  refine ⟨fun i x hi => ?_⟩
  unfold lcopy at hi
  by_cases h : i < min ys.length xs.length
  · rw [List.getElem?_append_left (by rw [List.length_take]; omega), List.getElem?_take, if_pos (by omega)] at hi
    obtain ⟨q, hq, hr⟩ := hy.at_ i x hi
    refine ⟨q, hq, fun j v hj => ?_⟩
    have hj' : j < d.n := by rw [← d.len hq]; exact (List.getElem?_eq_some_iff.1 hj).1
    have : (i + 1) * d.n ≤ min ys.length xs.length * d.n := Nat.mul_le_mul_right _ h
    rw [Nat.add_mul, Nat.one_mul] at this
    simp only [hget]
    rw [if_pos (by rw [hml]; omega), Nat.sub_zero, List.getElem?_take, if_pos (by omega)]
    exact hr j v hj
  · have hi2 : (xs.drop ys.length)[i - (ys.take xs.length).length]? = some x := by
      rw [List.getElem?_append_right (by rw [List.length_take]; omega)] at hi; exact hi
    rw [List.getElem?_drop] at hi2
    have hlt := (List.getElem?_eq_some_iff.1 hi2).1
    rw [List.length_take] at hi2 hlt
    have hi3 : xs[i]? = some x := by rw [show i = ys.length + (i - min xs.length ys.length) from by omega]; exact hi2
    obtain ⟨q, hq, hr⟩ := hx.at_ i x hi3
    refine ⟨q, hq, fun j v hj => ?_⟩
    have : min ys.length xs.length * d.n ≤ i * d.n := Nat.mul_le_mul_right _ (by omega)
    simp only [hget]
    rw [if_neg (by rw [hml]; omega)]
    exact hr j v hj
/-- A copy into a row of the call's own. -/
theorem gl_copyW {α : Type} {d : Kd α} {tD tS e e' : TypeId} {A A2 : Option Addr} {c c2 : Nat} {xs ys : List α} {dx sx : Operand} {C : Own} (f : Own → Own)
    (ho : (opAt ops k).op = .call { callee := .builtin .copy, args := #[dx, sx], argTypes := #[tD, tS] }) (h : readyKV ops k N K = true)
    (hd : kvOp K dx = some (.slice A xs.length c)) (hs : kvOp K sx = some (.slice A2 ys.length c2)) (he : sliceElem P tD = some (e, d.n)) (hO : OwnS d e' I A c xs C) (hU : ∀ X, Upd L C X (f X)) (hsrc : RdS d I L A2 ys)
    (kk : ∀ C', OwnS d e' I A c (lcopy xs ys) C' → GLk P ops (k + 1) N (kvPut K (opAt ops k).dst (.int .i64 ((min ys.length xs.length : Nat) : Int))) I (f C') T) : GLk P ops k N K I L T := by
  obtain ⟨hu1, hu2⟩ := sliceElem_spec he
  refine gl_gen h fun t ht W hW => ?_
  obtain ⟨l, hl, hrow, hone, hcell⟩ := hsrc.rd W hW
  have hm : Nat.min ys.length xs.length = min ys.length xs.length := rfl
  have hml : (l.take (min ys.length xs.length * d.n)).length = min ys.length xs.length * d.n := by
    rw [List.length_take, hl]
    have := Nat.mul_le_mul_right d.n (Nat.min_le_left ys.length xs.length)
    omega
  have hfc : (Builtin.firstCells d.n (min ys.length xs.length) (.slice A2 ys.length c2)).run P W = .ok (l.take (min ys.length xs.length * d.n)).toArray W := by
    by_cases hy : ys = []
    · subst hy
      cases A2 <;> simp [Builtin.firstCells, loadCells, loadCellsFrom]
    · obtain ⟨a, rfl, ha⟩ := hcell hy
      refine run_firstCells_some W d.n _ a ys.length c2 _ hml (fun j v hj => ?_)
      rw [List.getElem?_take] at hj
      split at hj
      · exact ha j v hj
      · cases hj
  rcases hO with ⟨rfl, rfl, rfl, hA⟩ | ⟨g, cells, fz, rfl, rfl, hfz, hc1, hc2, hrx, hmx⟩
  · obtain ⟨R, hR1, hR2⟩ := hW.upd (hU [])
    refine ⟨_, I, f [], W, ?_, hR2 I W (by simpa using hR1), kk [] (.inl ⟨by simp [lcopy], rfl, rfl, hA⟩)⟩
    have hcopy : (Builtin.copy_ #[tD, tS] (opAt ops k).type #[.slice A ([] : List α).length 0, .slice A2 ys.length c2]).run P W = .ok (.int .i64 ((min ys.length ([] : List α).length : Nat) : Int)) W := by
      cases A <;> simp [Builtin.copy_, run_underlying' hu1, Builtin.lenOf, hu2, storeCells, goInt] <;> simp at hfc <;> simp [hfc, storeCells]
    simp only [execOp, ho, resolve, invoke, builtin, Sem.run_bind, Sem.run_pure, Result.andThen_ok, List.map_toArray, List.map_cons, List.map_nil, ht.op hd, ht.op hs, hcopy]
  · have hxc : xs.length * d.n ≤ cells.size := by rw [hc2]; exact Nat.mul_le_mul_right _ hc1
    have hmc : min ys.length xs.length * d.n ≤ cells.size := Nat.le_trans (Nat.mul_le_mul_right d.n (Nat.min_le_right ys.length xs.length)) hxc
    obtain ⟨R, hR1, hR2⟩ := hW.upd (hU [(g, .cells (putSeg cells 0 (l.take (min ys.length xs.length * d.n))) e' fz)])
    obtain ⟨W', hs', hg, hne, ho1, ho2, ho3⟩ := store_block (P := P) (g := g) (t := e') (fz := fz) (l.take (min ys.length xs.length * d.n)) 0 0 cells W (hR1.mem (by simp)) hfz (by rw [hml]; omega) (fun v hv => hone v (List.mem_of_mem_take hv))
    refine ⟨_, I, _, W', ?_, hR2 I W' (Holds.set (A := []) hR1 _ (by simpa using hg) hne ho1 ho2 ho3), kk _ (.inr ⟨g, _, fz, rfl, rfl, by rw [FreeOf, putSeg_size]; exact hfz, by rw [lcopy_length]; exact hc1, by rw [putSeg_size]; exact hc2, row_copy hrx hrow hl hxc, by rw [lcopy_length]; exact hmx⟩)⟩
    have hcopy : (Builtin.copy_ #[tD, tS] (opAt ops k).type #[.slice (some ⟨g, 0, none⟩) xs.length c, .slice A2 ys.length c2]).run P W = .ok (.int .i64 ((min ys.length xs.length : Nat) : Int)) W' := by
      simp [Builtin.copy_, run_underlying' hu1, Builtin.lenOf, hm, hu2, hfc, hs', goInt]
    simp only [execOp, ho, resolve, invoke, builtin, Sem.run_bind, Sem.run_pure, Result.andThen_ok, List.map_toArray, List.map_cons, List.map_nil, ht.op hd, ht.op hs, hcopy]
theorem RowAt.take {α : Type} {d : Kd α} {I : Imm} {xs : List α} {cs : Nat → Option Value} (h : RowAt d I xs cs) (r : Nat) : RowAt d I (xs.take r) cs := ⟨fun i x hi => by
  rw [List.getElem?_take] at hi
  split at hi
  · exact h.at_ i x hi
  · cases hi⟩
/-- The head of a row. -/
theorem OwnS.take {α : Type} {d : Kd α} {e : TypeId} {A : Option Addr} {c : Nat} {xs : List α} {C : Own} (h : OwnS d e I A c xs C) (r : Nat) : OwnS d e I A c (xs.take r) C := by
  rcases h with ⟨rfl, rfl, rfl, rfl⟩ | ⟨g, cells, fz, rfl, rfl, h3, h4, h5, h6, h7⟩
  · exact .inl ⟨by simp, rfl, rfl, rfl⟩
  · exact .inr ⟨g, cells, fz, rfl, rfl, h3, by rw [List.length_take]; omega, h5, h6.take r, by rw [List.length_take]; omega⟩
theorem RepS.take {α : Type} {d : Kd α} {A : Option Addr} {c : Nat} {xs : List α} (h : RepS d I A c xs) (r : Nat) : RepS d I A c (xs.take r) := ⟨by have := h.le; rw [List.length_take]; omega, by have := h.max; rw [List.length_take]; omega, fun i x hi => by
  rw [List.getElem?_take] at hi
  split at hi
  · exact h.at_ i x hi
  · cases hi⟩
end
end Go.GB

/- Shifts and divisions by what is not known ahead. -/
set_option linter.unusedVariables false
namespace Go.GB
section
variable {P : Program} {ops : Array Oper} {k N : Nat} {K : KV} {I : Imm} {L : Own} {T : TPost}
end
end Go.GB

/- Arrays that are compared. -/
set_option linter.unusedVariables false
namespace Go.GB
section
variable {P : Program} {ops : Array Oper} {k N : Nat} {K : KV} {I : Imm} {L : Own} {T : TPost}
end
end Go.GB

/- The kit's contracts, brought to the form of the walks. -/
set_option linter.unusedVariables false
namespace Go.GB
open Go.RowKit
/-- A call that only lays new blocks: what is known stays. -/
theorem Holds.below {I : Imm} {L : Own} {W W' : World} (h : Holds I L W) (hb : Below W.heap.size W W') (hd : I.dr ≤ W'.drawn) : Holds I L W' :=
  ⟨fun b o hI => by have := h.imm b o hI; rw [hb.block b (lt_of_heap this)]; exact this, fun p hp => by have := h.own p hp; rw [hb.block p.1 (lt_of_heap this)]; exact this, h.nd, h.dj,
    by rw [hb.os, h.os], by rw [hb.tape, h.tape], by rw [hb.output, h.out], hd⟩
theorem callsTo_below {P : Program} {f : FuncId} {args : Array Value} {I : Imm} {L : Own} {v : Value} (h0 : I.dr = 0) (h : ∀ W, Holds I L W → Calls P f args W fun e W' => e = .returned v ∧ Below W.heap.size W W') :
    CallsTo P f args I L (fun v' I' L' => v' = v ∧ L = L') := fun W hW =>
  (h W hW).mono fun e W' ⟨he, hb⟩ => ⟨v, I, L, he, Imm.refl I, hW.below hb (by rw [h0]; exact Nat.zero_le _), rfl, rfl⟩
end Go.GB

/- How data that are read are bounded. -/
set_option linter.unusedVariables false
namespace Go.GB
def wInt (k : IntKind) (x : Int) (n : Nat) : Prop := k.min ≤ x ∧ x ≤ k.max
def wStr (s : ByteArray) (n : Nat) : Prop := s.size + 1 ≤ n
def wSl {α : Type} (w : α → Nat → Prop) : List α → Nat → Prop
  | [], _ => True
  | x :: r, n => ∃ a b, w x a ∧ wSl w r b ∧ a + b ≤ n ∧ 1 ≤ a
theorem wSl.len {α : Type} {w : α → Nat → Prop} : ∀ {l : List α} {n : Nat}, wSl w l n → l.length ≤ n
  | [], n, _ => Nat.zero_le _
  | x :: r, n, ⟨a, b, _, h, hab, ha⟩ => by have := wSl.len h; simp; omega
theorem wSl.mem {α : Type} {w : α → Nat → Prop} {x : α} : ∀ {l : List α} {n : Nat}, wSl w l n → x ∈ l → ∃ a, w x a ∧ a ≤ n
  | [], _, _, h => by cases h
  | y :: r, n, ⟨a, b, hw, h, hab, _⟩, hx => by
    rcases List.mem_cons.1 hx with rfl | hx
    · exact ⟨a, hw, by omega⟩
    · obtain ⟨c, h1, h2⟩ := wSl.mem h hx
      exact ⟨c, h1, by omega⟩
theorem wSl.le {α : Type} {w : α → Nat → Prop} : ∀ {l : List α} {n m : Nat}, wSl w l n → n ≤ m → wSl w l m
  | [], _, _, _, _ => trivial
  | x :: r, n, m, ⟨a, b, h1, h2, h3, h4⟩, hm => ⟨a, b, h1, h2, by omega, h4⟩
end Go.GB

/- slices.SortFunc by the kit's contract, at an order that parts whatever two are not one. -/
set_option linter.unusedVariables false
namespace Go.GB
open Go.RowKit
/-! ### What it makes of a list -/
structure SortOk {α : Type} (Q : α → Prop) (cmp : α → α → Option Int) (k : α → α → Int) : Prop where
  eq : ∀ x y, Q x → Q y → cmp x y = some (k x y)
  swo : Go.Sort.SWO (fun x y => decide (k x y < 0))
  anti : ∀ x y, ¬ k x y < 0 → ¬ k y x < 0 → x = y
def SortR {α : Type} (Q : α → Prop) (cmp : α → α → Option Int) (xs r : List α) : Prop := (∀ x ∈ xs, Q x) ∧ ∃ k, SortOk Q cmp k ∧ r.Perm xs ∧ r.Pairwise (fun x y => ¬ k y x < 0)
theorem SortR.unique {α : Type} {Q : α → Prop} {cmp : α → α → Option Int} {xs r r' : List α} (h : SortR Q cmp xs r) (h' : SortR Q cmp xs r') : r = r' := by
  obtain ⟨hq, k, hk, hp, hs⟩ := h
  obtain ⟨_, k', hk', hp', hs'⟩ := h'
  have e : ∀ x y, x ∈ xs → y ∈ xs → k x y = k' x y := fun x y hx hy => by
    have := hk.eq x y (hq x hx) (hq y hy)
    rw [hk'.eq x y (hq x hx) (hq y hy)] at this
    exact (Option.some.inj this).symm
  refine List.Perm.eq_of_pairwise (le := fun x y => ¬ k y x < 0) ?_ hs ?_ (hp.trans hp'.symm)
  · intro a b _ _ h1 h2; exact hk.anti a b h2 h1
  · refine hs'.imp_of_mem fun {a b} ha hb hab => ?_
    rw [e b a (hp'.mem_iff.1 hb) (hp'.mem_iff.1 ha)]; exact hab
/-! ### A world as it is, read -/
theorem Holds.grow {I : Imm} {L : Own} {W : World} (h : Holds I L W) (os : Array Obj) : Holds I L (Go.Sort.grow W os) := by
  have e : ∀ (b : Nat) (o : Obj), W.heap[b]? = some o → (Go.Sort.grow W os).heap[b]? = some o := fun b o hb => by
    show (W.heap ++ os)[b]? = _
    rw [Array.getElem?_append, if_pos (lt_of_heap hb)]; exact hb
  exact ⟨fun b o hI => e b o (h.imm b o hI), fun p hp => e p.1 p.2 (h.own p hp), h.nd, h.dj, h.os, h.tape, h.out, h.dr⟩
/-! ### A row of one cell each, with its cells -/
end Go.GB

/- Rows of the call's own: read while order is drawn; their tails; clear. -/
set_option linter.unusedVariables false
namespace Go.GB
open Go.RowKit
theorem OwnS.ixAt {α : Type} {d : Kd α} {e : TypeId} {I : Imm} {A : Option Addr} {c : Nat} {l : List α} {x : α} {i : Int} {C : Own} (hx : ix l i = some x) (hO : OwnS d e I A c l C) :
    ∃ p cs, d.R I x cs ∧ (∀ I' L', (∀ q ∈ C, q ∈ L') → AtL I' L' p cs) ∧ ∃ a, A = some a ∧ p = a.add (i.toNat * d.n) := by
  obtain ⟨h0, h1, h2⟩ := ix_some hx
  rcases hO with ⟨rfl, _, _⟩ | ⟨g, cells, fz, rfl, rfl, _, h4, h5, h6, _⟩
  · simp at h2
  · obtain ⟨cs, hR, hr⟩ := h6.at_ _ x h2
    refine ⟨_, cs, hR, fun I' L' hC W hW j v hj => ?_, _, rfl, rfl⟩
    have hg : W.heap[g]? = some (.cells cells e fz) := hW.own (g, .cells cells e fz) (hC _ (by simp))
    rw [addr_add]
    simp only [World.cell?, hg]
    simpa using hr j v hj
/-- A' is where the tail from k on of a slice at A lies, m elements of it. -/
def ViewS (n : Nat) (A A' : Option Addr) (k : Int) (m : Nat) : Prop := 0 ≤ k ∧ ∀ i : Int, 0 ≤ i → i < (m : Int) → ∃ a, A = some a ∧ ∃ a', A' = some a' ∧ a' = a.add (k.toNat * n)
def viewA (A : Option Addr) (b : Int) (n c : Nat) : Option Addr := if c = b.toNat then A else A.map (·.add (b.toNat * n))
theorem OwnS.view {α : Type} {d : Kd α} {e : TypeId} {I : Imm} {A : Option Addr} {c : Nat} {l l' : List α} {b : Int} {C : Own} (hx : lx l b (l.length : Int) = some l') (hO : OwnS d e I A c l C) : ViewS d.n A (viewA A b d.n c) b l'.length := by
  unfold lx at hx
  split at hx <;> try (cases hx; done)
  rename_i hb
  obtain ⟨h0, h1, h2⟩ := hb
  simp only [Option.some.injEq] at hx
  have hlc := hO.lenc
  have hlen : l'.length = l.length - b.toNat := by rw [← hx, List.length_drop, List.length_take]; omega
  refine ⟨h0, fun i hi0 hi1 => ?_⟩
  unfold viewA
  rw [if_neg (by omega)]
  rcases hO with ⟨rfl, _, _⟩ | ⟨g, cells, fz, rfl, rfl, _, h4, h5, h6, _⟩
  · have h3 : l'.length = 0 := by rw [hlen]; simp
    omega
  · exact ⟨_, rfl, _, rfl, rfl⟩
theorem OwnS.head {α : Type} {d : Kd α} {e : TypeId} {I : Imm} {A : Option Addr} {c : Nat} {l l' : List α} {n : Nat} {C : Own} (hd : l' = l.take n) (h : OwnS d e I A c l C) : OwnS d e I A c l' C := by rw [hd]; exact h.take n
theorem RepS.head {α : Type} {d : Kd α} {I : Imm} {A : Option Addr} {c : Nat} {l l' : List α} {n : Nat} (hd : l' = l.take n) (h : RepS d I A c l) : RepS d I A c l' := by rw [hd]; exact h.take n
section
variable {P : Program} {ops : Array Oper} {k N : Nat} {K : KV} {I : Imm} {L : Own} {T : TPost}
end
end Go.GB

/- Strings gone through rune by rune; heads of rows; what a builder holds. -/
set_option linter.unusedVariables false
namespace Go.GB
open Go.RowKit
section
variable {P : Program} {ops : Array Oper} {k N : Nat} {K : KV} {I : Imm} {L : Own} {T : TPost}
end
/-- What a strings.Builder at block g holds: its bytes xs; B: its blocks. -/
def BldS (T e : TypeId) (I : Imm) (g : Nat) (xs : List Int) (B : Own) : Prop :=
  ∃ p A c C, (p = none ∨ p = some (⟨g, 0, none⟩ : Addr)) ∧ OwnS (Kd.int .u8) e I A c xs C ∧ B = (g, .cells #[.pointer p, .slice A xs.length c] T) :: C
theorem BldS.mono {T e : TypeId} {I J : Imm} {g : Nat} {xs : List Int} {B : Own} (h : BldS T e I g xs B) (hI : I ≤ J) : BldS T e J g xs B := by
  obtain ⟨p, A, c, C, h1, h2, h3⟩ := h
  exact ⟨p, A, c, C, h1, h2.mono hI, h3⟩
theorem BldS.new (T e : TypeId) (I : Imm) (g : Nat) : BldS T e I g [] [(g, .cells #[.pointer none, .slice none 0 0] T)] :=
  ⟨none, none, 0, [], .inl rfl, OwnS.nil _ _ _ _, rfl⟩
end Go.GB

/- Decimal numerals, by a number of rounds. -/
set_option linter.unusedVariables false
namespace Go.GB
/-! ### Labels that are gone to from nowhere -/
section
variable {P : Program} {c : Code} {N : Nat} {K : KV} {I : Imm} {L : Own} {Q : Post}
end
end Go.GB

/- Heads of rows of which more is known than they show; elements of owned rows that are stored to late; functions that call themselves. -/
set_option linter.unusedVariables false
namespace Go.GB
open Go.RowKit
section
variable {P : Program} {ops : Array Oper} {k N : Nat} {K : KV} {I : Imm} {L : Own} {T : TPost}
end
theorem gl_kv {P : Program} {ops : Array Oper} {k N : Nat} {K K' : KV} {I : Imm} {L : Own} {T : TPost} (e : K = K') (h : GLk P ops k N K' I L T) : GLk P ops k N K I L T := by rw [e]; exact h
/-- An element of an owned row: where it lies, and what it holds as long as the row stays. -/
theorem OwnS.ixAtG {α : Type} {d : Kd α} {e : TypeId} {I : Imm} {A : Option Addr} {c : Nat} {l : List α} {x : α} {i : Int} {C : Own} (hx : ix l i = some x) (hO : OwnS d e I A c l C) :
    ∃ p cs, d.R I x cs ∧ (∀ I' L', (∀ q ∈ C, q ∈ L') → AtL I' L' p cs) ∧ (∃ a, A = some a ∧ p = a.add (i.toNat * d.n)) ∧ ∃ g, A = some ⟨g, 0, none⟩ ∧ p = (⟨g, 0, none⟩ : Addr).add (i.toNat * d.n) := by
  obtain ⟨p, cs, h1, h2, a, h3, h4⟩ := OwnS.ixAt hx hO
  refine ⟨p, cs, h1, h2, ⟨a, h3, h4⟩, ?_⟩
  rcases hO with ⟨_, _, _, h⟩ | ⟨g, cells, fz, rfl, rfl, _⟩
  · rw [h] at h3; cases h3
  · cases h3; exact ⟨g, rfl, h4⟩
theorem lset_length {α : Type} (l : List α) (i : Int) (y : α) : (lset l i y).length = l.length := by simp [lset]
/-- Functions that call themselves: so many times at most. -/
def iterF {α β : Type} (F : (α → Option β) → α → Option β) : Nat → α → Option β
  | 0 => fun _ => none
  | n + 1 => F (iterF F n)
end Go.GB

/- strings.Builder: copyCheck, in a world where the builder's block is known. -/
set_option linter.unusedVariables false
namespace Go.Proofs
open Go.RowKit Go.Shelf
set_option maxRecDepth 100000 in
set_option maxHeartbeats 2000000 in
theorem bcopy_none (g : Nat) (w : World) (hc : w.cell? ⟨g, 0, none⟩ = some (.pointer none)) (hsh : w.shape? g = some (128, 2)) (hf : w.frozen? ⟨g, 0, none⟩ = false) :
    Calls Tryz.prog 132 #[.pointer (some ⟨g, 0, none⟩)] w fun e w' => e = .returned (.tuple #[]) ∧ w' = w.setCell ⟨g, 0, none⟩ (.pointer (some ⟨g, 0, none⟩)) := by
  obtain ⟨j, hj, hjs⟩ : ∃ j, Tryz.prog.info? 128 = some j ∧ j.size = 2 := Option.map_eq_some_iff.1 (show (Tryz.prog.info? 128).map (·.size) = some 2 by kernel_rfl)
  refine (callsIn_wide (n := 3)).1 (callsIn_of_wp Tryz.func132 rfl trivial ?_ rfl)
  simp only [Tryz.ntmps132, List.size_toArray, List.length_cons, List.length_nil, Nat.reduceAdd, Nat.reduceSub, Array.replicate_succ, Array.replicate_zero, List.push_toArray, List.append_toArray, List.nil_append, List.cons_append]
  gi_wp2
  rw [Lib.run_to_unsafe w ⟨g, 0, none⟩ Tryz.underlying126 Tryz.underlying173 hj (by rw [hjs]; decide) hsh (Nat.zero_lt_succ 1)]
  simp only [Result.andThen]
  gi_wp2
  refine ⟨trivial, ?_⟩
  rw [run_callFunc_extern Tryz.func142 (by kernel_rfl) (by kernel_rfl) (by kernel_rfl) (e := Extern.AbiNoEscape.same) (by kernel_rfl)]
  rw [Lib.run_noEscape]
  simp only [Result.andThen]
  gi_wp2
  rw [Lib.run_from_unsafe w ⟨g, 0, none⟩ Tryz.underlying173 Tryz.underlying126 hj hsh (show liesAt Tryz.prog Tryz.prog.depth 128 (2 / Tryz.prog.cellsOf 128) 0 128 1 = true by kernel_rfl)]
  simp only [Result.andThen]
  gi_wp2
  go_end0
  exact ⟨rfl, rfl⟩
set_option maxRecDepth 100000 in
set_option maxHeartbeats 2000000 in
theorem bcopy_self (g : Nat) (w : World) (hc : w.cell? ⟨g, 0, none⟩ = some (.pointer (some ⟨g, 0, none⟩))) :
    Calls Tryz.prog 132 #[.pointer (some ⟨g, 0, none⟩)] w fun e w' => e = .returned (.tuple #[]) ∧ w' = w := by
  refine (callsIn_wide (n := 3)).1 (callsIn_of_wp Tryz.func132 rfl trivial ?_ rfl)
  simp only [Tryz.ntmps132, List.size_toArray, List.length_cons, List.length_nil, Nat.reduceAdd, Nat.reduceSub, Array.replicate_succ, Array.replicate_zero, List.push_toArray, List.append_toArray, List.nil_append, List.cons_append]
  gi_wp2
  obtain ⟨j, hj, _⟩ : ∃ j, Tryz.prog.info? 128 = some j ∧ j.size = 2 := Option.map_eq_some_iff.1 (show (Tryz.prog.info? 128).map (·.size) = some 2 by kernel_rfl)
  rw [Lib.run_neq_ptr_same w _ Tryz.underlying126 hj]
  simp only [Result.andThen]
  gi_wp2
  go_end0
  exact ⟨rfl, rfl⟩
set_option maxRecDepth 100000 in
set_option maxHeartbeats 2000000 in
theorem bstr_none (g : Nat) (T : TypeId) (p : Value) (w : World) (hb : w.heap[g]? = some (.cells #[p, .slice none 0 0] T (0, 0))) :
    Calls Tryz.prog 111 #[.pointer (some ⟨g, 0, none⟩)] w fun e w' => e = .returned (.string ⟨#[]⟩) ∧ w' = w.drew := by
  have c1 : w.drew.cell? ⟨g, 1, none⟩ = some (.slice none 0 0) := by
    have : w.drew.heap[g]? = some (.cells #[p, .slice none 0 0] T (0, 0)) := hb
    rw [Lib.cell_of_heap this]; rfl
  have hSD : (Builtin.unsafeSliceData_ #[51] 166 #[.slice none 0 0]).run Tryz.prog w.drew = .ok (.pointer none) w.drew := rfl
  have hUS : (Builtin.unsafeString_ #[166, 3] 9 #[.pointer none, .int .i64 0]).run Tryz.prog w.drew = .ok (.string ⟨#[]⟩) w.drew := Lib.run_unsafeString_none _ _ _ _ _
  refine calls_of_wp Tryz.func111 rfl ?_
  simp only [Tryz.ntmps111, List.size_toArray, List.length_cons, List.length_nil, Nat.reduceAdd, Nat.reduceSub, Array.replicate_succ, Array.replicate_zero, List.push_toArray, List.append_toArray, List.nil_append, List.cons_append]
  have mixed : Tryz.prog.follows .mixedOrders = true := by kernel_rfl
  go_wp2
  go_region_o
  all_goals (go_wp2; go_ret; exact ⟨rfl, rfl⟩)
set_option maxRecDepth 100000 in
set_option maxHeartbeats 2000000 in
theorem bstr_some (g gb c : Nat) (T : TypeId) (p : Value) (cur : Array Value) (fz : Nat × Nat) (l : List UInt8) (w : World) (h0 : l ≠ []) (hb : w.heap[g]? = some (.cells #[p, .slice (some ⟨gb, 0, none⟩) l.length c] T (0, 0)))
    (hg : w.heap[gb]? = some (.cells cur 5 fz)) (hc : c ≠ 0) (hn : l.length ≤ cur.size) (hm : l.length ≤ 2147483648) (hx : ∀ (j : Nat) (x : UInt8), l[j]? = some x → cur[j]? = some (Value.int .u8 (x.toNat : Int))) :
    Calls Tryz.prog 111 #[.pointer (some ⟨g, 0, none⟩)] w fun e w' => e = .returned (.string ⟨l.toArray⟩) ∧ w' = w.drew.freeze ⟨gb, 0, none⟩ l.length := by
  have c1 : w.drew.cell? ⟨g, 1, none⟩ = some (.slice (some ⟨gb, 0, none⟩) l.length c) := by
    have : w.drew.heap[g]? = some (.cells #[p, .slice (some ⟨gb, 0, none⟩) l.length c] T (0, 0)) := hb
    rw [Lib.cell_of_heap this]; rfl
  have hSD : (Builtin.unsafeSliceData_ #[51] 166 #[.slice (some ⟨gb, 0, none⟩) l.length c]).run Tryz.prog w.drew = .ok (.pointer (some ⟨gb, 0, none⟩)) w.drew :=
    Lib.run_unsafeSliceData_row _ _ _ _ _ _ hc
  have hUS : (Builtin.unsafeString_ #[166, 3] 9 #[.pointer (some ⟨gb, 0, none⟩), .int .i64 l.length]).run Tryz.prog w.drew = .ok (.string ⟨l.toArray⟩) (w.drew.freeze ⟨gb, 0, none⟩ l.length) := by
    refine Lib.run_unsafeString_row w.drew 166 3 9 5 Tryz.underlying166 (by kernel_rfl) gb cur.size (by have hg' : w.drew.heap[gb]? = some (.cells cur 5 fz) := hg; simp [World.shape?, hg']) l h0 hn (by omega) ?_
    intro j x hj
    have hg' : w.drew.heap[gb]? = some (.cells cur 5 fz) := hg
    have := hx j x hj
    have e : (⟨gb, 0, none⟩ : Addr).add j = ⟨gb, j, none⟩ := by unfold Addr.add; split <;> simp_all
    rw [e]
    simp [World.cell?, hg', this]
  refine calls_of_wp Tryz.func111 rfl ?_
  simp only [Tryz.ntmps111, List.size_toArray, List.length_cons, List.length_nil, Nat.reduceAdd, Nat.reduceSub, Array.replicate_succ, Array.replicate_zero, List.push_toArray, List.append_toArray, List.nil_append, List.cons_append]
  have mixed : Tryz.prog.follows .mixedOrders = true := by kernel_rfl
  go_wp2
  go_region_o
  all_goals (go_wp2; go_ret; exact ⟨rfl, rfl⟩)
set_option maxRecDepth 100000 in
set_option maxHeartbeats 2000000 in
theorem bstr_empty (g gb c : Nat) (T : TypeId) (p : Value) (cur : Array Value) (fz : Nat × Nat) (w : World) (hb : w.heap[g]? = some (.cells #[p, .slice (some ⟨gb, 0, none⟩) 0 c] T (0, 0))) (hg : w.heap[gb]? = some (.cells cur 5 fz)) (hc : c ≠ 0) :
    Calls Tryz.prog 111 #[.pointer (some ⟨g, 0, none⟩)] w fun e w' => e = .returned (.string ⟨#[]⟩) ∧ w' = w.drew := by
  have c1 : w.drew.cell? ⟨g, 1, none⟩ = some (.slice (some ⟨gb, 0, none⟩) 0 c) := by
    have : w.drew.heap[g]? = some (.cells #[p, .slice (some ⟨gb, 0, none⟩) 0 c] T (0, 0)) := hb
    rw [Lib.cell_of_heap this]; rfl
  have hSD : (Builtin.unsafeSliceData_ #[51] 166 #[.slice (some ⟨gb, 0, none⟩) 0 c]).run Tryz.prog w.drew = .ok (.pointer (some ⟨gb, 0, none⟩)) w.drew := Lib.run_unsafeSliceData_row _ _ _ _ _ _ hc
  have hUS : (Builtin.unsafeString_ #[166, 3] 9 #[.pointer (some ⟨gb, 0, none⟩), .int .i64 0]).run Tryz.prog w.drew = .ok (.string ⟨#[]⟩) w.drew := Lib.run_unsafeString_none _ _ _ _ _
  refine calls_of_wp Tryz.func111 rfl ?_
  simp only [Tryz.ntmps111, List.size_toArray, List.length_cons, List.length_nil, Nat.reduceAdd, Nat.reduceSub, Array.replicate_succ, Array.replicate_zero, List.push_toArray, List.append_toArray, List.nil_append, List.cons_append]
  have mixed : Tryz.prog.follows .mixedOrders = true := by kernel_rfl
  go_wp2
  go_region_o
  all_goals (go_wp2; go_ret; exact ⟨rfl, rfl⟩)
set_option maxRecDepth 100000 in
set_option maxHeartbeats 2000000 in
theorem bstr_zero (g gb : Nat) (T : TypeId) (p : Value) (cur : Array Value) (fz : Nat × Nat) (w : World) (hb : w.heap[g]? = some (.cells #[p, .slice (some ⟨gb, 0, none⟩) 0 0] T (0, 0))) (hg : w.heap[gb]? = some (.cells cur 5 fz)) :
    Calls Tryz.prog 111 #[.pointer (some ⟨g, 0, none⟩)] w fun e w' => e = .returned (.string ⟨#[]⟩) ∧ w' = (w.alloc (.view ⟨gb, 0, none⟩ 5)).drew := by
  have c1 : w.drew.cell? ⟨g, 1, none⟩ = some (.slice (some ⟨gb, 0, none⟩) 0 0) := by
    have : w.drew.heap[g]? = some (.cells #[p, .slice (some ⟨gb, 0, none⟩) 0 0] T (0, 0)) := hb
    rw [Lib.cell_of_heap this]; rfl
  have c2 : (w.alloc (.view ⟨gb, 0, none⟩ 5)).cell? ⟨g, 1, none⟩ = some (.slice (some ⟨gb, 0, none⟩) 0 0) := cell_kept (W := w) c1 (World.grownBy_alloc w _ none) (fun r e => by cases e)
  have hSD : (Builtin.unsafeSliceData_ #[51] 166 #[.slice (some ⟨gb, 0, none⟩) 0 0]).run Tryz.prog w.drew = .ok (.pointer (some ⟨w.heap.size, 0, none⟩)) (w.alloc (.view ⟨gb, 0, none⟩ 5)).drew :=
    Lib.run_unsafeSliceData_zero _ _ _ _ Tryz.underlying166 _ _ (5, cur.size) (by have hg' : w.drew.heap[gb]? = some (.cells cur 5 fz) := hg; simp [World.shape?, hg'])
  have hUS : (Builtin.unsafeString_ #[166, 3] 9 #[.pointer (some ⟨w.heap.size, 0, none⟩), .int .i64 0]).run Tryz.prog (w.alloc (.view ⟨gb, 0, none⟩ 5)).drew = .ok (.string ⟨#[]⟩) (w.alloc (.view ⟨gb, 0, none⟩ 5)).drew := Lib.run_unsafeString_none _ _ _ _ _
  refine calls_of_wp Tryz.func111 rfl ?_
  simp only [Tryz.ntmps111, List.size_toArray, List.length_cons, List.length_nil, Nat.reduceAdd, Nat.reduceSub, Array.replicate_succ, Array.replicate_zero, List.push_toArray, List.append_toArray, List.nil_append, List.cons_append]
  have mixed : Tryz.prog.follows .mixedOrders = true := by kernel_rfl
  go_wp2
  go_region_o
  all_goals (go_wp2; go_ret; exact ⟨rfl, rfl⟩)
end Go.Proofs

set_option linter.unusedVariables false
namespace Go.GB
open Go.RowKit Go.Proofs
theorem bld_copyCheck {g : Nat} {p : Option Addr} {x : Value} {I : Imm} (hp : p = none ∨ p = some (⟨g, 0, none⟩ : Addr)) (L : Own) :
    CallsTo Tryz.prog 132 #[.pointer (some ⟨g, 0, none⟩)] I ((g, .cells #[.pointer p, x] 128) :: L) (fun v I' L' => v = .tuple #[] ∧ (g, .cells #[.pointer (some ⟨g, 0, none⟩), x] 128) :: L = L') := by
  intro W hW
  have hg : W.heap[g]? = some (.cells #[.pointer p, x] 128) := hW.own (g, .cells #[.pointer p, x] 128) (by simp)
  rcases hp with rfl | rfl
  · refine (bcopy_none g W (by simp [World.cell?, hg]) (by simp [World.shape?, hg]) (by simp [World.frozen?, hg])).mono ?_
    rintro e W' ⟨rfl, rfl⟩
    refine ⟨_, I, _, rfl, Imm.refl I, Holds.set (A := []) hW (.cells #[.pointer (some ⟨g, 0, none⟩), x] 128) ?_ (fun b hb => ?_) rfl rfl ⟨rfl, Nat.le_refl _⟩, rfl, rfl⟩
    · simp only [World.setCell, Array.getElem?_modify, if_true, hg, Option.map_some]; rfl
    · simp only [World.setCell, Array.getElem?_modify]
      rw [if_neg (fun e => hb e.symm)]
  · refine (bcopy_self g W (by simp [World.cell?, hg])).mono ?_
    rintro e W' ⟨rfl, rfl⟩
    exact ⟨_, I, _, rfl, Imm.refl I, hW, rfl, rfl⟩
open Classical in
noncomputable def strO (xs : List Int) : Option ByteArray := if ∀ x ∈ xs, 0 ≤ x ∧ x < 256 then some ⟨(xs.map (fun x => UInt8.ofNat x.toNat)).toArray⟩ else none
theorem bld_String {g : Nat} {p : Option Addr} {A : Option Addr} {c : Nat} {xs : List Int} {C : Own} {I : Imm} {r : ByteArray} (hO : OwnS (Kd.int .u8) 5 I A c xs C) (hr : strO xs = some r) (L : Own) :
    CallsTo Tryz.prog 111 #[.pointer (some ⟨g, 0, none⟩)] I ((g, .cells #[.pointer p, .slice A xs.length c] 128) :: (C ++ L)) (fun v I' L' => v = .string r ∧ L = L') := by
  intro W hW
  unfold strO at hr
  split at hr <;> cases hr
  rename_i hx
  have hg : W.heap[g]? = some (.cells #[.pointer p, .slice A xs.length c] 128) := hW.own (g, .cells #[.pointer p, .slice A xs.length c] 128) (by simp)
  rcases hO with ⟨rfl, rfl, rfl, rfl⟩ | ⟨gb, cells, fz, rfl, rfl, hfz, h4, h5, h6, h7⟩
  · refine (bstr_none g 128 _ W hg).mono ?_
    rintro e W' ⟨rfl, rfl⟩
    have h2 : Holds I L W := Holds.drop (C := [(g, .cells #[.pointer p, .slice none ([] : List Int).length 0] 128)]) hW
    exact ⟨_, I, L, rfl, Imm.refl I, h2.drawn (W.drawn + 1), rfl, rfl⟩
  · have hgb : W.heap[gb]? = some (.cells cells 5 fz) := hW.own (gb, .cells cells 5 fz) (by simp)
    have hn1 : (Kd.int .u8).n = 1 := rfl
    rw [hn1, Nat.mul_one] at h5
    have h7' : xs.length ≤ 2147483648 := h7
    by_cases h0 : xs = []
    · subst h0
      have h2 : Holds I L W := (Holds.drop (C := [(g, .cells #[.pointer p, .slice (some ⟨gb, 0, none⟩) ([] : List Int).length c] 128)]) hW).sub (List.sublist_cons_self _ _)
      by_cases hc : c = 0
      · subst hc
        refine (bstr_zero g gb 128 (.pointer p) cells fz W hg hgb).mono ?_
        rintro e W' ⟨rfl, rfl⟩
        exact ⟨_, I, L, rfl, Imm.refl I, ((h2.drawn (W.drawn + 1)).new (.view ⟨gb, 0, none⟩ 5)).sub (List.sublist_cons_self _ _), rfl, rfl⟩
      · refine (bstr_empty g gb c 128 (.pointer p) cells fz W hg hgb hc).mono ?_
        rintro e W' ⟨rfl, rfl⟩
        exact ⟨_, I, L, rfl, Imm.refl I, h2.drawn (W.drawn + 1), rfl, rfl⟩
    · have hl0 : xs.map (fun x => UInt8.ofNat x.toNat) ≠ [] := by simpa using h0
      have hpos : 0 < xs.length := List.length_pos_iff.2 h0
      have hll : (xs.map (fun x => UInt8.ofNat x.toNat)).length = xs.length := by simp
      refine (bstr_some g gb c 128 (.pointer p) cells fz (xs.map (fun x => UInt8.ofNat x.toNat)) W hl0 (by rw [hll]; exact hg) hgb (by omega) (by rw [hll]; omega) (by rw [hll]; omega) (fun j y hj => ?_)).mono ?_
      · rw [List.getElem?_map] at hj
        cases hxj : xs[j]? with
        | none => rw [hxj] at hj; cases hj
        | some z =>
          rw [hxj] at hj
          simp only [Option.map_some, Option.some.injEq] at hj
          obtain ⟨l, hl, hc⟩ := h6.at_ j z hxj
          obtain rfl : l = [.int .u8 z] := hl
          have h8 := hc 0 (.int .u8 z) rfl
          rw [hn1, Nat.mul_one, Nat.add_zero] at h8
          have h9 := hx z (List.mem_of_getElem? hxj)
          rw [h8, ← hj]
          congr 2
          rw [UInt8.toNat_ofNat']
          omega
      · rintro e W' ⟨rfl, rfl⟩
        rw [hll]
        obtain ⟨o', ho'⟩ : ∃ o', W.drew.freeze ⟨gb, 0, none⟩ xs.length = { W with drawn := W.drawn + 1, heap := W.heap.modify gb o' } ∧ ∃ fz', o' (.cells cells 5 fz) = .cells cells 5 fz' := by
          unfold World.freeze
          rw [if_neg (by omega)]
          exact ⟨_, rfl, _, rfl⟩
        obtain ⟨ew, fz', hf'⟩ := ho'
        rw [ew]
        have h2 := Holds.set (A := [(g, .cells #[.pointer p, .slice (some ⟨gb, 0, none⟩) xs.length c] 128)]) (L := L) hW (W' := { W with drawn := W.drawn + 1, heap := W.heap.modify gb o' }) (.cells cells 5 fz') (by
          show (W.heap.modify gb o')[gb]? = _
          rw [Array.getElem?_modify, if_pos rfl, hgb, Option.map_some, hf']) (fun b hb => by
          show (W.heap.modify gb o')[b]? = _
          rw [Array.getElem?_modify, if_neg (Ne.symm hb)]) rfl rfl ⟨rfl, Nat.le_succ _⟩
        exact ⟨_, I, L, rfl, Imm.refl I, (Holds.drop (C := [(g, .cells #[.pointer p, .slice (some ⟨gb, 0, none⟩) xs.length c] 128)]) h2).sub (List.sublist_cons_self _ _), rfl, rfl⟩
end Go.GB
namespace Go.Proofs.YtnlkfajnaelnnaaGreatDoor
/-- The kit has an Own of another meaning. -/
abbrev Own := Go.GB.Own
end Go.Proofs.YtnlkfajnaelnnaaGreatDoor
