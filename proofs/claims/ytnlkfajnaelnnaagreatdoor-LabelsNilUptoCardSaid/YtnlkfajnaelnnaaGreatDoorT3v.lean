/- labels.quoted at "x" (what the example of chapter 4 asks of it). -/
import Derived.Test.YtnlkfajnaelnnaaGreatDoorT2v
import Derived.WalkSpells
set_option linter.unusedVariables false
namespace Go.Proofs.YtnlkfajnaelnnaaGreatDoor
open Go.RowKit

set_option maxRecDepth 100000 in
set_option maxHeartbeats 1600000 in
theorem replaceX_walk (gr gt : Nat) (w : World) (h0 : w.cell? ⟨gr, 120, none⟩ = some (.slice none 0 0)) (h1 : w.cell? ⟨gr, 256, none⟩ = some (.slice (some ⟨gt, 0, none⟩) 3 3)) :
    Calls Tryz.prog 219 #[.pointer (some ⟨gr, 0, none⟩), .string ⟨#[120]⟩] w fun e w' => e = .returned (.string ⟨#[120]⟩) ∧ w' = w := by
  have qT : ∀ (w : World) (a : Option Addr) (n c n' c' : Nat), (binOp .neq 51 (.slice a n c) (.slice none n' c')).run Tryz.prog w = .ok (.bool (!a.isNone)) w := fun w a n c n' c' => run_neq_slice_nil_any w _ _ a n c n' c' Tryz.underlying51
  have hnot : ∀ (x : Bool) (w : World), (Op.unary .not (.bool x)).run Tryz.prog w = .ok (.bool (!x)) w := fun _ _ => rfl
  have x120 : ∀ h, ((⟨#[120]⟩ : ByteArray)[0]'h).toNat = 120 := fun _ => rfl
  go_enter Tryz.func219, Tryz.ntmps219
  go_wp2
  refine wp_loop_rounds 2 ?_
  rw [rounds_succ]; go_wp2
  rw [rounds_succ]; go_wp2
  go_ret
  exact ⟨rfl, rfl⟩

theorem afterDo (g : Nat) (w w1 w' : World) (Y : Array Value) (hg1 : (w.setCell ⟨g, 1, none⟩ (.int .i32 1)).heap[g]? = some (.cells Y 164 (0, 0))) (hY : Y.size = 5)
    (hR : ∃ v gt gr C, BSt (w.setCell ⟨g, 1, none⟩ (.int .i32 1)) v gt gr C pairsL ∧ w1 = (v.setCell ⟨g, 3, none⟩ (.iface 200 (.pointer (some ⟨gr, 0, none⟩)))).setCell ⟨g, 4, none⟩ (.slice none 0 0))
    (hw : w' = (w1.drew.setCell ⟨g, 0, none⟩ (.int .u32 1)).setCell ⟨g, 1, none⟩ (.int .i32 0)) :
    ∃ gt gr, w'.cell? ⟨g, 3, none⟩ = some (.iface 200 (.pointer (some ⟨gr, 0, none⟩))) ∧ w'.cell? ⟨gr, 120, none⟩ = some (.slice none 0 0) ∧ w'.cell? ⟨gr, 256, none⟩ = some (.slice (some ⟨gt, 0, none⟩) 3 3) ∧
      ∀ n, n ≤ g → n ≤ w.heap.size → Below n w w' := by
  obtain ⟨v, gt, gr, C, B, rfl⟩ := hR
  subst hw
  have h3 := heapSet _ g 3 (.iface 200 (.pointer (some ⟨gr, 0, none⟩))) _ _ _ (B.heapOld hg1)
  have h4 := heapSet _ g 4 (.slice none 0 0) _ _ _ h3
  have h4d : ((v.setCell ⟨g, 3, none⟩ (.iface 200 (.pointer (some ⟨gr, 0, none⟩)))).setCell ⟨g, 4, none⟩ (.slice none 0 0)).drew.heap[g]? = some _ := h4
  have h5 := heapSet _ g 1 (.int .i32 0) _ _ _ (heapSet _ g 0 (.int .u32 1) _ _ _ h4d)
  have hlt := heapLt hg1
  have hne : gr ≠ g := by have := B.hr; omega
  have hC : (((((v.setCell ⟨g, 3, none⟩ (.iface 200 (.pointer (some ⟨gr, 0, none⟩)))).setCell ⟨g, 4, none⟩ (.slice none 0 0)).drew).setCell ⟨g, 0, none⟩ (.int .u32 1)).setCell ⟨g, 1, none⟩ (.int .i32 0)).heap[gr]? = some (.cells C 199 (0, 0)) := by
    rw [Below.heap_setCell _ _ _ _ hne, Below.heap_setCell _ _ _ _ hne]
    show (World.setCell _ _ _).heap[gr]? = _
    rw [Below.heap_setCell _ _ _ _ hne, Below.heap_setCell _ _ _ _ hne]; exact B.hC
  refine ⟨gt, gr, ?_, ?_, ?_, ?_⟩
  · rw [cellOf _ _ _ _ _ _ h5, Array.getElem?_setIfInBounds_ne (by omega), Array.getElem?_setIfInBounds_ne (by omega), Array.getElem?_setIfInBounds_ne (by omega), Array.getElem?_setIfInBounds_self_of_lt (by omega)]
  · rw [cellOf _ _ _ _ _ _ hC]; exact B.nil 120 (by omega) (by simp)
  · rw [cellOf _ _ _ _ _ _ hC]; exact B.top
  · intro n hn hnw
    have hs : (w.setCell ⟨g, 1, none⟩ (.int .i32 1)).heap.size = w.heap.size := by simp [World.setCell]
    exact ((((((Below.refl n w).setCell (p := ⟨g, 1, none⟩) hn _).trans (B.bel.mono (by rw [hs]; exact hnw))).setCell (p := ⟨g, 3, none⟩) hn _).setCell (p := ⟨g, 4, none⟩) hn _).drew.setCell (p := ⟨g, 0, none⟩) hn _).setCell (p := ⟨g, 1, none⟩) hn _

set_option maxRecDepth 100000 in
set_option maxHeartbeats 1600000 in
/-- (*strings.Replacer).Replace at "x". -/
theorem replacerX_walk (g ga c : Nat) (w : World) (hg : w.heap[g]? = some (.cells #[.int .u32 0, .int .i32 0, .int .u32 0, .nilIface, .slice (some ⟨ga, 0, none⟩) 6 c] 164 (0, 0)))
    (X : Array Value) (ta : TypeId) (fa : Nat × Nat) (ha : w.heap[ga]? = some (.cells X ta fa)) (hX : ∀ i, i < 6 → X[i]? = sixS[i]?) :
    Calls Tryz.prog 108 #[.pointer (some ⟨g, 0, none⟩), .string ⟨#[120]⟩] w fun e w' => e = .returned (.string ⟨#[120]⟩) ∧ ∀ n, n ≤ g → n ≤ w.heap.size → Below n w w' := by
  have hmf : ∀ (fn : Fn) (first cap : Array Value) (w : World), (Instr.makeFunc fn first cap).run Tryz.prog w = .ok (.func fn first cap) w := fun _ _ _ _ => rfl
  have hg1 : (w.setCell ⟨g, 1, none⟩ (.int .i32 1)).heap[g]? = some (.cells #[.int .u32 0, .int .i32 1, .int .u32 0, .nilIface, .slice (some ⟨ga, 0, none⟩) 6 c] 164 (0, 0)) := heapSet _ _ _ _ _ _ _ hg
  have hne : ga ≠ g := by
    intro e; subst e; rw [hg] at ha
    simp only [Option.some.injEq, Obj.cells.injEq] at ha
    have := hX 0 (by omega); rw [← ha.1] at this; simp at this
  have hF := buildOnce_walk g ga c (w.setCell ⟨g, 1, none⟩ (.int .i32 1)) _ _ _ _ hg1 X ta fa (by rw [Below.heap_setCell _ _ _ _ hne]; exact ha) hX
  have hD := do_first g w (fun w1 => ∃ v gt gr C, BSt (w.setCell ⟨g, 1, none⟩ (.int .i32 1)) v gt gr C pairsL ∧ w1 = (v.setCell ⟨g, 3, none⟩ (.iface 200 (.pointer (some ⟨gr, 0, none⟩)))).setCell ⟨g, 4, none⟩ (.slice none 0 0))
    (cellOf _ _ _ _ _ _ hg) (cellOf _ _ _ _ _ _ hg) (frozenOf _ _ _ _ _ hg) (frozenOf _ _ _ _ _ hg) (hF.mono (by
      rintro e w' ⟨rfl, v, gt, gr, C, B, rfl⟩
      have hh := heapSet _ g 4 (.slice none 0 0) _ _ _ (heapSet _ g 3 (.iface 200 (.pointer (some ⟨gr, 0, none⟩))) _ _ _ (B.heapOld hg1))
      exact ⟨rfl, ⟨v, gt, gr, C, B, rfl⟩, cellOf _ _ _ _ _ _ hh, cellOf _ _ _ _ _ _ hh, frozenOf _ _ _ _ _ hh, frozenOf _ _ _ _ _ hh⟩))
  have hgh : Hid _ := hg1
  clear hg ha hX hF hg1
  go_enter Tryz.func108, Tryz.ntmps108
  go_wp2_with (first | (go_at_call 130; refine hD.mono ?_; rintro e w' ⟨rfl, w1, hR, hw⟩; obtain ⟨gt, gr, e3, k0, k1, hbel⟩ := afterDo g w w1 w' _ hgh.out rfl hR hw; clear hR hw hD; have hb : Hid _ := hbel; clear hbel) | (go_at_call 219; refine (replaceX_walk gr gt _ k0 k1).mono ?_; rintro e w2 ⟨rfl, rfl⟩))
  go_ret
  exact ⟨rfl, hb.out⟩
end Go.Proofs.YtnlkfajnaelnnaaGreatDoor
