/- A range over what a nil numbering has: nothing. -/
import Derived.RangeFuncNested
import Derived.RangeFuncBound
import Derived.RangeFuncCalls
import Derived.RangeFuncLeaves
import Derived.RangeFuncFrom
import Derived.Shelf.Abstract
import Derived.Shelf.RegionOpen
import Derived.WalkKit
import Derived.OwnWalkIn
import Derived.TacticsInMore
import Derived.LoopNIn
import Derived.LoopIn
import Derived.Test.YtnlkfajnaelnnaaGreatDoorChecked
import Derived.Test.YtnlkfajnaelnnaaGreatDoorM1v
set_option linter.unusedVariables false
namespace Go.Proofs
open Go.RowKit Go.Shelf
attribute [local go_sem] Oper.semAt_some
theorem ncell_box {W : World} {B : Nat} {v : Value} {t : TypeId} (h : W.heap[B]? = some (.cells #[v] t (0, 0))) : W.cell? ⟨B, 0, none⟩ = some v ∧ W.frozen? ⟨B, 0, none⟩ = false := by
  constructor <;> simp [World.cell?, World.frozen?, h]
theorem ncell_new (W : World) (v : Value) (t : TypeId) : (W.alloc (.cells #[v] t)).cell? ⟨W.heap.size, 0, none⟩ = some v ∧ (W.alloc (.cells #[v] t)).frozen? ⟨W.heap.size, 0, none⟩ = false :=
  ncell_box (World.alloc_heap_new W _)
theorem ncell_alloc {W : World} {a : Addr} {v : Value} (o : Obj) (h : W.cell? a = some v) : (W.alloc o).cell? a = some v := cell_kept h (World.grownBy_alloc W o none) (fun r e => by cases e)
theorem nfrozen_alloc {W : World} {a : Addr} {v : Value} (o : Obj) (h : W.cell? a = some v) (hf : W.frozen? a = false) : (W.alloc o).frozen? a = false := (frozen_kept h (World.grownBy_alloc W o none) (fun r e => by cases e)).trans hf

set_option maxRecDepth 100000 in
set_option maxHeartbeats 2000000 in
theorem nall_in (F : Fence) (n : Nat) (h5 : F.fn 98) (hro : F.round = none) (w : World) :
    CallsIn F n Tryz.prog 98 #[.pointer none] w fun e w' => e = .returned (.func (.func 125) #[] #[.pointer (some ⟨w.heap.size, 0, none⟩)]) ∧ w' = w.alloc (.cells #[.pointer none] 58) := by
  refine callsIn_of_wp Tryz.func98 rfl h5 ?_ hro
  simp only [Tryz.ntmps98, List.size_toArray, List.length_cons, List.length_nil, Nat.reduceAdd, Nat.reduceSub, Array.replicate_succ, Array.replicate_zero, List.push_toArray, List.append_toArray, List.nil_append, List.cons_append]
  gi_wp2
  go_ret
  exact ⟨rfl, rfl⟩

set_option maxRecDepth 100000 in
set_option maxHeartbeats 2000000 in
theorem nlen_in (F : Fence) (n : Nat) (h5 : F.fn 99) (hro : F.round = none) (w : World) :
    CallsIn F n Tryz.prog 99 #[.pointer none] w fun e w' => e = .returned (.int .i64 0) ∧ w' = w := by
  refine callsIn_of_wp Tryz.func99 rfl h5 ?_ hro
  simp only [Tryz.ntmps99, List.size_toArray, List.length_cons, List.length_nil, Nat.reduceAdd, Nat.reduceSub, Array.replicate_succ, Array.replicate_zero, List.push_toArray, List.append_toArray, List.nil_append, List.cons_append]
  gi_wp2
  go_ret
  exact ⟨rfl, rfl⟩

set_option maxRecDepth 100000 in
set_option maxHeartbeats 2000000 in
theorem nstops (F : Fence) (n : Nat) (h6 : F.fn 125) (hro : F.round = none) (hn : 1 ≤ n) (B : Nat) (w : World) (hB : B < w.heap.size) (hc : w.cell? ⟨B, 0, none⟩ = some (.pointer none)) (n₀ : Nat) :
    SeqStopsK F n Tryz.prog 125 #[.pointer (some ⟨B, 0, none⟩)] (fun x : Empty => (#[undef, undef] : Array Value)) (Below n₀) (fun ys => ys = []) (fun pre => False) 0 w := by
  intro l J Jx W hW hJ hJx hY h0
  have hc2 : W.cell? ⟨B, 0, none⟩ = some (.pointer none) := (hW.cell (p := ⟨B, 0, none⟩) hB).trans hc
  refine callsIn_of_wp Tryz.func125 rfl h6 ?_ hro
  simp only [Tryz.ntmps125, List.size_toArray, List.length_cons, List.length_nil, Nat.reduceAdd, Nat.reduceSub, Array.replicate_succ, Array.replicate_zero, List.push_toArray, List.append_toArray, List.nil_append, List.cons_append]
  have hc3 := ncell_alloc (.cells #[.func (.yield l) #[] #[]] 140) hc2
  gi_wp2
  refine bodyPost_ret (results_none rfl _ _ _) rfl ?_
  exact ⟨⟨_, rfl⟩, h0⟩
theorem nequalIn_func (w : World) (d : Nat) (fn : Fn) (a b : Array Value) (h : Tryz.prog.underlying 120 = some (.func #[140] #[] false)) :
    (Op.equalIn (d + 1) 120 (.func fn a b) .nilFunc).run Tryz.prog w = .ok false w := by
  simp [Op.equalIn, run_underlying h]
@[local go_sem] theorem neql_func (w : World) (fn : Fn) (a b : Array Value) : (binOp .eql 120 (.func fn a b) .nilFunc).run Tryz.prog w = .ok (.bool false) w := by
  have h : Tryz.prog.underlying 120 = some (.func #[140] #[] false) := by kernel_rfl
  simp only [binOp]
  simp [Op.equal, Op.maxDepth, nequalIn_func w 9999 fn a b h]

set_option maxRecDepth 100000 in
set_option maxHeartbeats 2000000 in
theorem ntold_in (F : Fence) (n : Nat) (h3 : F.fn 52) (h5 : F.fn 98) (h6 : F.fn 125) (h7 : F.fn 99) (hro : F.round = none) (hn : 3 ≤ n) (g : Nat) (A : Option Addr) (c : Nat) (w : World) (hg : g < w.heap.size) (hA : w.cell? ⟨g, 0, none⟩ = some (.slice A 0 c)) :
    CallsIn F n Tryz.prog 52 #[.pointer none, .pointer (some ⟨g, 0, none⟩)] w fun e W' => e = .returned (.bool true) ∧ Below w.heap.size w W' := by
  have h1 : 1 ≤ n := by omega
  refine callsIn_of_wp_marks Tryz.func52 rfl h3 ?_ hro
  simp only [Tryz.ntmps52, List.size_toArray, List.length_cons, List.length_nil, Nat.reduceAdd, Nat.reduceSub, Array.replicate_succ, Array.replicate_zero, List.push_toArray, List.append_toArray, List.nil_append, List.cons_append]
  gi_wp2_with (gi_at_call 98; refine (nall_in F (n - 1) h5 hro _).mono ?_; rintro e w' ⟨rfl, rfl⟩)
  have c0 := ncell_new w (.pointer (some ⟨g, 0, none⟩)) 60
  have c1 := ncell_new (w.alloc (.cells #[.pointer (some ⟨g, 0, none⟩)] 60)) (.bool false) 4
  have c2 := ncell_new ((w.alloc (.cells #[.pointer (some ⟨g, 0, none⟩)] 60)).alloc (.cells #[.bool false] 4)) (.pointer none) 58
  rw [World.size_alloc] at c1
  rw [World.size_alloc, World.size_alloc] at c2
  have d0 := (ncell_alloc (.cells #[.pointer none] 58) (ncell_alloc (.cells #[.bool false] 4) c0.1))
  have d1 := (ncell_alloc (.cells #[.pointer none] 58) c1.1)
  have f1 := (nfrozen_alloc (.cells #[.pointer none] 58) c1.1 c1.2)
  have dA := (ncell_alloc (.cells #[.pointer none] 58) (ncell_alloc (.cells #[.bool false] 4) (ncell_alloc (.cells #[.pointer (some ⟨g, 0, none⟩)] 60) hA)))
  have hB0 : Below w.heap.size w (((w.alloc (.cells #[.pointer (some ⟨g, 0, none⟩)] 60)).alloc (.cells #[.bool false] 4)).alloc (.cells #[.pointer none] 58)) := (((Below.refl _ w).alloc (Nat.le_refl _) _).alloc (by simp) _).alloc (by simp; omega) _
  have hsz : (((w.alloc (.cells #[.pointer (some ⟨g, 0, none⟩)] 60)).alloc (.cells #[.bool false] 4)).alloc (.cells #[.pointer none] 58)).heap.size = w.heap.size + 3 := by simp
  generalize (((w.alloc (.cells #[.pointer (some ⟨g, 0, none⟩)] 60)).alloc (.cells #[.bool false] 4)).alloc (.cells #[.pointer none] 58)) = W at *
  have hmx : Tryz.prog.follows .mixedOrders = true := by kernel_rfl
  refine Code.wpIn_mono (Q := fun e a w' => e = Exit.normal ∧ a = { tmps := #[Value.pointer none, Value.pointer (some ⟨g, 0, none⟩), undef, Value.pointer (some ⟨w.heap.size, 0, none⟩), Value.pointer (some ⟨w.heap.size + 1, 0, none⟩), Value.func (Fn.func 125) #[] #[Value.pointer (some ⟨w.heap.size + 1 + 1, 0, none⟩)], undef, undef, undef, Value.pointer none, Value.func (Fn.func 125) #[] #[Value.pointer (some ⟨w.heap.size + 1 + 1, 0, none⟩)], Value.pointer none, Value.int IntKind.i64 0, Value.pointer (some ⟨g, 0, none⟩), Value.pointer (some ⟨g, 0, none⟩), Value.pointer (some ⟨g, 0, none⟩), Value.slice A 0 c, Value.int IntKind.i64 0, Value.bool false, undef, undef, undef, undef, undef, undef, undef, undef, undef, undef, undef, undef, undef, undef, undef, undef, undef, undef, undef, undef, undef, undef, undef, undef, undef, undef, undef, undef, undef, undef, undef, undef, undef, undef, undef, undef, undef, undef, undef, undef, undef, undef, undef, undef, undef, undef, undef, undef, undef, undef, undef, undef, undef, undef], defers := [] } ∧ w' = W.drew) ?_ (by
    gi_region_with_o (gi_at_call 99; refine (nlen_in F (n - 1) h7 hro _).mono ?_; rintro e w' ⟨rfl, rfl⟩)
    all_goals exact ⟨rfl, rfl, rfl⟩)
  rintro e' a' w'' ⟨rfl, rfl, rfl⟩
  gi_wp2
  have g2 : ((W.alloc (.cells #[.int .i64 0] 3)).drew).cell? ⟨w.heap.size + 1 + 1, 0, none⟩ = some (.pointer none) := ncell_alloc (.cells #[.int .i64 0] 3) c2.1
  refine wpIn_rangeFunc_ownF hro h1 (gf := 125) (lb := #[.pointer (some ⟨w.heap.size + 1 + 1, 0, none⟩)]) rfl h6 (enters_of Tryz.func125 (by kernel_rfl) rfl)
    (nstops F (n - 1) h6 hro (by omega) (w.heap.size + 1 + 1) _ (by simp; omega) g2 w.heap.size) belowK_t (belowK_b (by simp; omega)) (Below.refl _ _) (fun x => x.elim)
    (fun pre W' => ((W'.cell? ⟨w.heap.size + 1, 0, none⟩ = some (.bool false) ∧ W'.frozen? ⟨w.heap.size + 1, 0, none⟩ = false) ∧ W'.cell? ⟨w.heap.size, 0, none⟩ = some (.pointer (some ⟨g, 0, none⟩)) ∧ W'.cell? ⟨g, 0, none⟩ = some (.slice A 0 c) ∧ W'.cell? ⟨w.heap.size + 3, 0, none⟩ = some (.int .i64 0)) ∧ Below w.heap.size w W')
    (fun _ _ _ => False)
    (OwnFrom.and (Own.from (fun s A B row hs hg hr => ⟨⟨cell_kept hs.1.1 hg hr, (frozen_kept hs.1.1 hg hr).trans hs.1.2⟩, cell_kept hs.2.1 hg hr, cell_kept hs.2.2.1 hg hr, cell_kept hs.2.2.2 hg hr⟩) _) (ownFrom_below (Nat.le_refl _) (by simp; omega)))
    (fun _ _ _ _ _ hs _ _ => hs)
    ⟨⟨⟨ncell_alloc (.cells #[.int .i64 0] 3) d1, nfrozen_alloc (.cells #[.int .i64 0] 3) d1 f1⟩, ncell_alloc (.cells #[.int .i64 0] 3) d0, ncell_alloc (.cells #[.int .i64 0] 3) dA, by have := (ncell_new W (.int .i64 0) 3).1; rw [hsz] at this; exact this⟩, (hB0.alloc (by omega) _).drew⟩
    (fun x => x.elim) (fun l x => x.elim) (fun l pre x => x.elim) ?done ?stop
  case done =>
    rintro D ys W' hD rfl ⟨⟨⟨e1, e2⟩, e3, e4, e5⟩, hB⟩ hK
    gi_wp2
    refine Code.wpIn_mono (Q := fun e a w' => e = Exit.normal ∧ a = { tmps := #[Value.pointer none, Value.pointer (some ⟨g, 0, none⟩), undef, Value.pointer (some ⟨w.heap.size, 0, none⟩), Value.pointer (some ⟨w.heap.size + 1, 0, none⟩), Value.func (Fn.func 125) #[] #[Value.pointer (some ⟨w.heap.size + 1 + 1, 0, none⟩)], Value.pointer (some ⟨w.heap.size + 3, 0, none⟩), undef, undef, Value.pointer none, Value.func (Fn.func 125) #[] #[Value.pointer (some ⟨w.heap.size + 1 + 1, 0, none⟩)], Value.pointer none, Value.int IntKind.i64 0, Value.pointer (some ⟨g, 0, none⟩), Value.pointer (some ⟨g, 0, none⟩), Value.pointer (some ⟨g, 0, none⟩), Value.slice A 0 c, Value.int IntKind.i64 0, Value.bool false, Value.func (Fn.func 125) #[] #[Value.pointer (some ⟨w.heap.size + 1 + 1, 0, none⟩)], Value.bool false, undef, undef, undef, undef, undef, undef, Value.func (Fn.func 125) #[] #[Value.pointer (some ⟨w.heap.size + 1 + 1, 0, none⟩)], undef, undef, undef, undef, undef, undef, undef, undef, undef, undef, undef, undef, undef, undef, undef, undef, undef, undef, undef, undef, undef, undef, undef, undef, undef, undef, undef, undef, undef, undef, undef, undef, undef, undef, undef, undef, undef, undef, Value.int IntKind.i64 0, Value.pointer (some ⟨g, 0, none⟩), Value.pointer (some ⟨g, 0, none⟩), Value.pointer (some ⟨g, 0, none⟩), Value.slice A 0 c, Value.int IntKind.i64 0, Value.bool true], defers := [{ target := Target.collected D, args := #[] }] } ∧ w' = (W'.setCell ⟨w.heap.size + 1, 0, none⟩ (.bool true)).drew) ?_ (by gi_region_o; all_goals exact ⟨rfl, rfl, rfl⟩)
    rintro e' a' w'' ⟨rfl, rfl, rfl⟩
    gi_wp2
    · have hK2 : ((W'.setCell ⟨w.heap.size + 1, 0, none⟩ (.bool true)).drew).heap[D]? = some (.deferred (some [])) := (KeepsOthers.setCell W' ⟨w.heap.size + 1, 0, none⟩ (.bool true)).same D _ hK rfl
      refine ⟨by simp, .inl ⟨_, _, rfl, run_takeDeferred hK2, ?_⟩⟩
      have c5 : ((W'.setCell ⟨w.heap.size + 1, 0, none⟩ (.bool true)).drew).cell? ⟨w.heap.size + 1, 0, none⟩ = some (.bool true) := World.cell?_setCell_same' W' ⟨w.heap.size + 1, 0, none⟩ (.bool true) (by rw [e1]; rfl)
      have hc5 := cell_kept c5 (grownBy_putObj' _ D (.deferred none)) (fun r e => by cases e; exact ⟨_, hK2, rfl⟩)
      refine ⟨.bool true, ?_, rfl, ((hB.setCell (p := ⟨w.heap.size + 1, 0, none⟩) (by simp) _).drew).trans (belowK_b (w := w) (Nat.le_refl _) _ D _ _ (by simp at hD; omega) hK2 rfl rfl)⟩
      simp [results, Tryz.f52, go_sem, hc5]
  case stop =>
    rintro D c pre W' _ h
    exact h.elim
end Go.Proofs
