/- strings.NewReplacer at quoted's six texts; labels.quoted at "x". -/
import Derived.Test.YtnlkfajnaelnnaaGreatDoorT3k
import Derived.Laws.Append
set_option linter.unusedVariables false
set_option linter.unusedSimpArgs false
namespace Go.Proofs.YtnlkfajnaelnnaaGreatDoor
open Go.RowKit

set_option maxRecDepth 100000 in
set_option maxHeartbeats 1600000 in
theorem newReplacer_walk (b : Nat) (w : World) (hb : w.heap[b]? = some (.cells sixS 9 (0, 0))) :
    Calls Tryz.prog 107 #[.slice (some ⟨b, 0, none⟩) 6 6] w fun e w' => ∃ g ga c X ta fa, e = .returned (.pointer (some ⟨g, 0, none⟩)) ∧ Below w.heap.size w w' ∧ w.heap.size ≤ g ∧
      w'.heap[g]? = some (.cells #[.int .u32 0, .int .i32 0, .int .u32 0, .nilIface, .slice (some ⟨ga, 0, none⟩) 6 c] 164 (0, 0)) ∧ w'.heap[ga]? = some (.cells X ta fa) ∧ ∀ i, i < 6 → X[i]? = sixS[i]? := by
  have k0 : w.cell? ⟨b, 0, none⟩ = some (.string ⟨#[92]⟩) := cellOf _ _ _ _ _ _ hb
  have k1 : w.cell? ⟨b, 1, none⟩ = some (.string ⟨#[92, 92]⟩) := cellOf _ _ _ _ _ _ hb
  have k2 : w.cell? ⟨b, 2, none⟩ = some (.string ⟨#[34]⟩) := cellOf _ _ _ _ _ _ hb
  have k3 : w.cell? ⟨b, 3, none⟩ = some (.string ⟨#[92, 34]⟩) := cellOf _ _ _ _ _ _ hb
  have k4 : w.cell? ⟨b, 4, none⟩ = some (.string ⟨#[10]⟩) := cellOf _ _ _ _ _ _ hb
  have k5 : w.cell? ⟨b, 5, none⟩ = some (.string ⟨#[92, 110]⟩) := cellOf _ _ _ _ _ _ hb
  clear hb
  go_enter Tryz.func107, Tryz.ntmps107
  go_wp2
  have hsz : ∀ (W : World) (z : Obj), (W.alloc z).heap.size = W.heap.size + 1 := fun W z => Array.size_push ..
  generalize (Question.appendCap 6 0 9).cut (w.tape w.drawn (Question.appendCap 6 0 9)) = F
  go_ret
  refine ⟨_, w.heap.size, F, sixS ++ Builtin.zeroCells #[.string ⟨#[]⟩] (F - 6), 9, (0, 0), rfl, (((Below.refl _ _).alloc (Nat.le_refl _) _).alloc (by rw [hsz]; omega) _).drew, Nat.le_succ _, ?_, ?_, ?_⟩
  · show (World.alloc _ _).heap[_]? = _
    rw [← hsz w _]; exact heapNew _ _
  · show (World.alloc _ _).heap[_]? = _
    rw [Below.heap_alloc _ _ _ (by rw [hsz]; omega)]; exact heapNew _ _
  · intro i hi
    rw [Array.getElem?_append_left (by show i < 6; exact hi)]

end Go.Proofs.YtnlkfajnaelnnaaGreatDoor
