/- (*strings.Replacer).buildOnce, NewReplacer's object through sync.Once. -/
import Derived.Test.YtnlkfajnaelnnaaGreatDoorT1k
set_option linter.unusedVariables false
set_option linter.unusedSimpArgs false
namespace Go.Proofs.YtnlkfajnaelnnaaGreatDoor
open Go.RowKit
abbrev pairsL : List (Nat × ByteArray) := [(10, ⟨#[92, 110]⟩), (34, ⟨#[92, 34]⟩), (92, ⟨#[92, 92]⟩)]
abbrev sixS : Array Value := #[.string ⟨#[92]⟩, .string ⟨#[92, 92]⟩, .string ⟨#[34]⟩, .string ⟨#[92, 34]⟩, .string ⟨#[10]⟩, .string ⟨#[92, 110]⟩]

theorem BSt.heapOld {w v : World} {gt gr C L} (h : BSt w v gt gr C L) {b : Nat} {O : Obj} (hx : w.heap[b]? = some O) : v.heap[b]? = some O := by
  rw [h.bel.block b (heapLt hx)]; exact hx

set_option maxRecDepth 100000 in
set_option maxHeartbeats 1600000 in
theorem buildOnce_walk (g ga c : Nat) (w : World) (x0 x1 x2 x3 : Value) (hg : w.heap[g]? = some (.cells #[x0, x1, x2, x3, .slice (some ⟨ga, 0, none⟩) 6 c] 164 (0, 0)))
    (X : Array Value) (ta : TypeId) (fa : Nat × Nat) (ha : w.heap[ga]? = some (.cells X ta fa)) (hX : ∀ i, i < 6 → X[i]? = sixS[i]?) :
    Calls Tryz.prog 131 #[.pointer (some ⟨g, 0, none⟩)] w fun e w' => e = .returned (.tuple #[]) ∧
      ∃ v gt gr C, BSt w v gt gr C pairsL ∧ w' = (v.setCell ⟨g, 3, none⟩ (.iface 200 (.pointer (some ⟨gr, 0, none⟩)))).setCell ⟨g, 4, none⟩ (.slice none 0 0) := by
  have hb := build_walk g ga c w (cellOf _ _ _ _ _ _ hg) ((cellOf _ _ _ _ _ _ ha).trans (hX 0 (by omega))) ((cellOf _ _ _ _ _ _ ha).trans (hX 1 (by omega))) ((cellOf _ _ _ _ _ _ ha).trans (hX 2 (by omega)))
    ((cellOf _ _ _ _ _ _ ha).trans (hX 3 (by omega))) ((cellOf _ _ _ _ _ _ ha).trans (hX 4 (by omega))) ((cellOf _ _ _ _ _ _ ha).trans (hX 5 (by omega)))
  have hgh : Hid _ := hg
  clear hg ha hX
  go_enter Tryz.func131, Tryz.ntmps131
  go_wp2_with (go_at_call 141; refine hb.mono ?_; rintro e v ⟨gt, gr, C, rfl, B⟩; have e3 : v.cell? ⟨g, 3, none⟩ = some x3 := cellOf _ _ _ _ _ _ (B.heapOld hgh.out); have e4 : ∀ x, (v.setCell ⟨g, 3, none⟩ x).cell? ⟨g, 4, none⟩ = some (.slice (some ⟨ga, 0, none⟩) 6 c) := (fun x => cellOf _ _ _ _ _ _ (heapSet _ _ _ x _ _ _ (B.heapOld hgh.out))); have z3 : v.frozen? ⟨g, 3, none⟩ = false := frozenOf _ _ _ _ _ (B.heapOld hgh.out); have z4 : v.frozen? ⟨g, 4, none⟩ = false := frozenOf _ _ _ _ _ (B.heapOld hgh.out); have e4' : v.cell? ⟨g, 4, none⟩ = some (.slice (some ⟨ga, 0, none⟩) 6 c) := cellOf _ _ _ _ _ _ (B.heapOld hgh.out); have Bh : Hid _ := B; clear B)
  go_end0
  exact ⟨rfl, _, _, _, _, Bh.out, rfl⟩
end Go.Proofs.YtnlkfajnaelnnaaGreatDoor
