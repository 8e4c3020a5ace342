/- A range over what a nil log has: nothing. -/
import Derived.RangeFuncNested
import Derived.RangeFuncBound
import Derived.RangeFuncCalls
import Derived.RangeFuncLeaves
import Derived.RangeFuncFrom
import Derived.Shelf.Abstract
import Derived.Shelf.RegionOpen
import Derived.WalkKit
import Derived.OwnWalkIn
import Derived.TacticsInMore
import Derived.LoopNIn
import Derived.LoopIn
import Derived.Test.YtlkmfhccpcncnaaDoorChecked
import Derived.Test.YtlkmfhccpcncnaaDoorGB20
set_option linter.unusedVariables false
namespace Go.Proofs
open Go.RowKit Go.Shelf
attribute [local go_sem] Oper.semAt_some
theorem ncell_box {W : World} {B : Nat} {v : Value} {t : TypeId} (h : W.heap[B]? = some (.cells #[v] t (0, 0))) : W.cell? ⟨B, 0, none⟩ = some v ∧ W.frozen? ⟨B, 0, none⟩ = false := by
  constructor <;> simp [World.cell?, World.frozen?, h]
theorem ncell_new (W : World) (v : Value) (t : TypeId) : (W.alloc (.cells #[v] t)).cell? ⟨W.heap.size, 0, none⟩ = some v ∧ (W.alloc (.cells #[v] t)).frozen? ⟨W.heap.size, 0, none⟩ = false :=
  ncell_box (World.alloc_heap_new W _)
theorem ncell_alloc {W : World} {a : Addr} {v : Value} (o : Obj) (h : W.cell? a = some v) : (W.alloc o).cell? a = some v := cell_kept h (World.grownBy_alloc W o none) (fun r e => by cases e)
theorem nfrozen_alloc {W : World} {a : Addr} {v : Value} (o : Obj) (h : W.cell? a = some v) (hf : W.frozen? a = false) : (W.alloc o).frozen? a = false := (frozen_kept h (World.grownBy_alloc W o none) (fun r e => by cases e)).trans hf

set_option maxRecDepth 100000 in
set_option maxHeartbeats 2000000 in
theorem nall_in (F : Fence) (n : Nat) (h5 : F.fn 52) (hro : F.round = none) (w : World) :
    CallsIn F n Tryd.prog 52 #[.pointer none] w fun e w' => e = .returned (.func (.func 93) #[] #[.pointer (some ⟨w.heap.size, 0, none⟩)]) ∧ w' = w.alloc (.cells #[.pointer none] 25) := by
  refine callsIn_of_wp Tryd.func52 rfl h5 ?_ hro
  simp only [Tryd.ntmps52, List.size_toArray, List.length_cons, List.length_nil, Nat.reduceAdd, Nat.reduceSub, Array.replicate_succ, Array.replicate_zero, List.push_toArray, List.append_toArray, List.nil_append, List.cons_append]
  gi_wp2
  go_ret
  exact ⟨rfl, rfl⟩

set_option maxRecDepth 100000 in
set_option maxHeartbeats 2000000 in
theorem nstops (F : Fence) (n : Nat) (h6 : F.fn 93) (hro : F.round = none) (hn : 1 ≤ n) (B : Nat) (w : World) (hB : B < w.heap.size) (hc : w.cell? ⟨B, 0, none⟩ = some (.pointer none)) (n₀ : Nat) :
    SeqStopsK F n Tryd.prog 93 #[.pointer (some ⟨B, 0, none⟩)] (fun x : Empty => (#[undef] : Array Value)) (Below n₀) (fun ys => ys = []) (fun pre => False) 0 w := by
  intro l J Jx W hW hJ hJx hY h0
  have hc2 : W.cell? ⟨B, 0, none⟩ = some (.pointer none) := (hW.cell (p := ⟨B, 0, none⟩) hB).trans hc
  refine callsIn_of_wp Tryd.func93 rfl h6 ?_ hro
  simp only [Tryd.ntmps93, List.size_toArray, List.length_cons, List.length_nil, Nat.reduceAdd, Nat.reduceSub, Array.replicate_succ, Array.replicate_zero, List.push_toArray, List.append_toArray, List.nil_append, List.cons_append]
  have hc3 := ncell_alloc (.cells #[.func (.yield l) #[] #[]] 135) hc2
  gi_wp2
  refine bodyPost_ret (results_none rfl _ _ _) rfl ?_
  exact ⟨⟨_, rfl⟩, hJ _ _ _ none h0 (World.grownBy_alloc W _ none) (fun r e => by cases e)⟩

set_option maxRecDepth 100000 in
set_option maxHeartbeats 2000000 in
theorem nrecords_in (F : Fence) (n : Nat) (h3 : F.fn 23) (h5 : F.fn 52) (h6 : F.fn 93) (hro : F.round = none) (hn : 3 ≤ n) (w : World) :
    CallsIn F n Tryd.prog 23 #[.pointer none] w fun e W' => e = .returned (.slice none 0 0) ∧ Below w.heap.size w W' := by
  have h1 : 1 ≤ n := by omega
  refine callsIn_of_wp_marks Tryd.func23 rfl h3 ?_ hro
  simp only [Tryd.ntmps23, List.size_toArray, List.length_cons, List.length_nil, Nat.reduceAdd, Nat.reduceSub, Array.replicate_succ, Array.replicate_zero, List.push_toArray, List.append_toArray, List.nil_append, List.cons_append]
  gi_wp2_with (gi_at_call 52; refine (nall_in F (n - 1) h5 hro _).mono ?_; rintro e w' ⟨rfl, rfl⟩)
  have hs := ncell_new w (.slice none 0 0) 55
  have hb := ncell_new (w.alloc (.cells #[.slice none 0 0] 55)) (.pointer none) 25
  rw [World.size_alloc] at hb
  have hB0 : Below w.heap.size w ((w.alloc (.cells #[.slice none 0 0] 55)).alloc (.cells #[.pointer none] 25)) := ((Below.refl _ w).alloc (Nat.le_refl _) _).alloc (by simp) _
  refine wpIn_rangeFunc_ownF hro h1 (gf := 93) (lb := #[.pointer (some ⟨w.heap.size + 1, 0, none⟩)]) rfl h6 (enters_of Tryd.func93 (by kernel_rfl) rfl)
    (nstops F (n - 1) h6 hro (by omega) (w.heap.size + 1) _ (by simp) hb.1 w.heap.size) belowK_t (belowK_b (by simp; omega)) (Below.refl _ _) (fun x => x.elim)
    (fun pre W => (W.cell? ⟨w.heap.size, 0, none⟩ = some (.slice none 0 0) ∧ W.frozen? ⟨w.heap.size, 0, none⟩ = false) ∧ Below w.heap.size w W)
    (fun _ _ _ => False)
    (OwnFrom.and (Own.from (fun s A B row hs hg hr => ⟨cell_kept hs.1 hg hr, (frozen_kept hs.1 hg hr).trans hs.2⟩) _) (ownFrom_below (Nat.le_refl _) (by simp; omega)))
    (fun _ _ _ _ _ hs _ _ => hs)
    ⟨⟨ncell_alloc _ hs.1, nfrozen_alloc _ hs.1 hs.2⟩, hB0⟩
    (fun x => x.elim) (fun l x => x.elim) (fun l pre x => x.elim) ?done ?stop
  case done =>
    rintro D ys W hD rfl ⟨⟨hc, _⟩, hB⟩ hK
    gi_wp2
    refine ⟨by simp, .inl ⟨_, _, rfl, run_takeDeferred hK, ?_⟩⟩
    exact ⟨_, results_tmp rfl _ _ _, rfl, hB.trans (belowK_b (w := w) (Nat.le_refl _) W D _ _ (by simp at hD; omega) hK rfl rfl)⟩
  case stop =>
    rintro D c pre W _ h
    exact h.elim

theorem nequalIn_func (w : World) (d : Nat) (fn : Fn) (a b : Array Value) (h : Tryd.prog.underlying 96 = some (.func #[135] #[] false)) :
    (Op.equalIn (d + 1) 96 (.func fn a b) .nilFunc).run Tryd.prog w = .ok false w := by
  simp [Op.equalIn, run_underlying h]
@[local go_sem] theorem neql_func (w : World) (fn : Fn) (a b : Array Value) : (binOp .eql 96 (.func fn a b) .nilFunc).run Tryd.prog w = .ok (.bool false) w := by
  have h : Tryd.prog.underlying 96 = some (.func #[135] #[] false) := by kernel_rfl
  simp only [binOp]
  simp [Op.equal, Op.maxDepth, nequalIn_func w 9999 fn a b h]

set_option maxRecDepth 100000 in
set_option maxHeartbeats 2000000 in
theorem nevery_in (F : Fence) (n : Nat) (h3 : F.fn 20) (h5 : F.fn 52) (h6 : F.fn 93) (hro : F.round = none) (hn : 3 ≤ n) (m : Int) (w : World) :
    CallsIn F n Tryd.prog 20 #[.pointer none, .int .i64 m] w fun e W' => e = .returned (.slice none 0 0) ∧ Below w.heap.size w W' := by
  have h1 : 1 ≤ n := by omega
  refine callsIn_of_wp_marks Tryd.func20 rfl h3 ?_ hro
  simp only [Tryd.ntmps20, List.size_toArray, List.length_cons, List.length_nil, Nat.reduceAdd, Nat.reduceSub, Array.replicate_succ, Array.replicate_zero, List.push_toArray, List.append_toArray, List.nil_append, List.cons_append]
  gi_wp2_with (gi_at_call 52; refine (nall_in F (n - 1) h5 hro _).mono ?_; rintro e w' ⟨rfl, rfl⟩)
  have hs0 := ncell_new (w.alloc (.cells #[.int .i64 m] 3)) (.slice none 0 0) 38
  have hb := ncell_new ((w.alloc (.cells #[.int .i64 m] 3)).alloc (.cells #[.slice none 0 0] 38)) (.pointer none) 25
  rw [World.size_alloc] at hs0
  rw [World.size_alloc, World.size_alloc] at hb
  have hB0 : Below w.heap.size w (((w.alloc (.cells #[.int .i64 m] 3)).alloc (.cells #[.slice none 0 0] 38)).alloc (.cells #[.pointer none] 25)) := (((Below.refl _ w).alloc (Nat.le_refl _) _).alloc (by simp) _).alloc (by simp; omega) _
  refine wpIn_rangeFunc_ownF hro h1 (gf := 93) (lb := #[.pointer (some ⟨w.heap.size + 1 + 1, 0, none⟩)]) rfl h6 (enters_of Tryd.func93 (by kernel_rfl) rfl)
    (nstops F (n - 1) h6 hro (by omega) (w.heap.size + 1 + 1) _ (by simp) hb.1 w.heap.size) belowK_t (belowK_b (by simp; omega)) (Below.refl _ _) (fun x => x.elim)
    (fun pre W => (W.cell? ⟨w.heap.size + 1, 0, none⟩ = some (.slice none 0 0) ∧ W.frozen? ⟨w.heap.size + 1, 0, none⟩ = false) ∧ Below w.heap.size w W)
    (fun _ _ _ => False)
    (OwnFrom.and (Own.from (fun s A B row hs hg hr => ⟨cell_kept hs.1 hg hr, (frozen_kept hs.1 hg hr).trans hs.2⟩) _) (ownFrom_below (Nat.le_refl _) (by simp; omega)))
    (fun _ _ _ _ _ hs _ _ => hs)
    ⟨⟨ncell_alloc _ hs0.1, nfrozen_alloc _ hs0.1 hs0.2⟩, hB0⟩
    (fun x => x.elim) (fun l x => x.elim) (fun l pre x => x.elim) ?done ?stop
  case done =>
    rintro D ys W hD rfl ⟨⟨hc, _⟩, hB⟩ hK
    gi_wp2
    refine ⟨by simp, .inl ⟨_, _, rfl, run_takeDeferred hK, ?_⟩⟩
    exact ⟨_, results_tmp rfl _ _ _, rfl, hB.trans (belowK_b (w := w) (Nat.le_refl _) W D _ _ (by simp at hD; omega) hK rfl rfl)⟩
  case stop =>
    rintro D c pre W _ h
    exact h.elim
end Go.Proofs
namespace Go.Proofs.YtlkmfhccpcncnaaDoor
/-- The kit has an 'Own' of another meaning. -/
abbrev Own := Go.GB.Own
end Go.Proofs.YtlkmfhccpcncnaaDoor
