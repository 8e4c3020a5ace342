/- strings.NewReplacer at quoted's six texts; labels.quoted at "x". -/
import Derived.Test.YtnlkfajnaelnnaaGreatDoorT3v
import Derived.Laws.Append
set_option linter.unusedVariables false
namespace Go.Proofs.YtnlkfajnaelnnaaGreatDoor
open Go.RowKit

set_option maxRecDepth 100000 in
set_option maxHeartbeats 1600000 in
theorem newReplacer_walk (b : Nat) (w : World) (hb : w.heap[b]? = some (.cells sixS 9 (0, 0))) :
    Calls Tryz.prog 107 #[.slice (some ⟨b, 0, none⟩) 6 6] w fun e w' => ∃ g ga c X ta fa, e = .returned (.pointer (some ⟨g, 0, none⟩)) ∧ Below w.heap.size w w' ∧ w.heap.size ≤ g ∧
      w'.heap[g]? = some (.cells #[.int .u32 0, .int .i32 0, .int .u32 0, .nilIface, .slice (some ⟨ga, 0, none⟩) 6 c] 164 (0, 0)) ∧ w'.heap[ga]? = some (.cells X ta fa) ∧ ∀ i, i < 6 → X[i]? = sixS[i]? := by
  have k0 : w.cell? ⟨b, 0, none⟩ = some (.string ⟨#[92]⟩) := cellOf _ _ _ _ _ _ hb
  have k1 : w.cell? ⟨b, 1, none⟩ = some (.string ⟨#[92, 92]⟩) := cellOf _ _ _ _ _ _ hb
  have k2 : w.cell? ⟨b, 2, none⟩ = some (.string ⟨#[34]⟩) := cellOf _ _ _ _ _ _ hb
  have k3 : w.cell? ⟨b, 3, none⟩ = some (.string ⟨#[92, 34]⟩) := cellOf _ _ _ _ _ _ hb
  have k4 : w.cell? ⟨b, 4, none⟩ = some (.string ⟨#[10]⟩) := cellOf _ _ _ _ _ _ hb
  have k5 : w.cell? ⟨b, 5, none⟩ = some (.string ⟨#[92, 110]⟩) := cellOf _ _ _ _ _ _ hb
  clear hb
  go_enter Tryz.func107, Tryz.ntmps107
  go_wp2
  have hsz : ∀ (W : World) (z : Obj), (W.alloc z).heap.size = W.heap.size + 1 := fun W z => Array.size_push ..
  generalize (Question.appendCap 6 0 9).cut (w.tape w.drawn (Question.appendCap 6 0 9)) = F
  go_ret
  refine ⟨_, w.heap.size, F, sixS ++ Builtin.zeroCells #[.string ⟨#[]⟩] (F - 6), 9, (0, 0), rfl, (((Below.refl _ _).alloc (Nat.le_refl _) _).alloc (by rw [hsz]; omega) _).drew, Nat.le_succ _, ?_, ?_, ?_⟩
  · show (World.alloc _ _).heap[_]? = _
    rw [← hsz w _]; exact heapNew _ _
  · show (World.alloc _ _).heap[_]? = _
    rw [Below.heap_alloc _ _ _ (by rw [hsz]; omega)]; exact heapNew _ _
  · intro i hi
    rw [Array.getElem?_append_left (by show i < 6; exact hi)]

set_option maxRecDepth 100000 in
set_option maxHeartbeats 1600000 in
/-- labels.quoted at "x". -/
theorem quotedX_walk (w : World) : Calls Tryz.prog 63 #[.string ⟨#[120]⟩] w fun e w' => e = .returned (.string ⟨#[34, 120, 34]⟩) ∧ Below w.heap.size w w' := by
  go_enter Tryz.func63, Tryz.ntmps63
  go_wp2_with (first | (go_at_call 107; refine (newReplacer_walk _ _ (heapNew _ _)).mono ?_; rintro e v ⟨g, ga, c, X, ta, fa, rfl, hB, hle, hg, ha, hX⟩; have rp := replacerX_walk g ga c v hg X ta fa ha hX; have hb : Hid _ := hB; have hl : Hid _ := hle; clear hB hle hg ha hX) | (go_at_call 108; refine rp.mono ?_; rintro e w2 ⟨rfl, h2⟩; have h2h : Hid _ := h2; clear h2 rp))
  go_ret
  have hsz : (w.alloc (.cells sixS 9)).heap.size = w.heap.size + 1 := Array.size_push ..
  have b1 : Below w.heap.size w (w.alloc (.cells sixS 9)) := (Below.refl _ _).alloc (Nat.le_refl _) _
  have b2 := hb.out.mono (B' := w.heap.size) (by rw [hsz]; omega)
  have l2 := hl.out
  have s2 := hb.out.size
  rw [hsz] at l2 s2
  refine ⟨?_, (b1.trans b2).trans (h2h.out w.heap.size (by omega) (by omega))⟩
  exact congrArg (fun x => Ending.returned (.string x)) (show ((⟨#[34]⟩ : ByteArray) ++ ⟨#[120]⟩ ++ ⟨#[34]⟩) = ⟨#[34, 120, 34]⟩ by decide)
end Go.Proofs.YtnlkfajnaelnnaaGreatDoor
