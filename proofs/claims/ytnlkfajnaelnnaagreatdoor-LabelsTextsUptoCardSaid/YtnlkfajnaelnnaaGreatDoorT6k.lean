/- labels.quoted at any text: the replacer that is built, read as a table, and what it answers. -/
import Derived.Test.YtnlkfajnaelnnaaGreatDoorRPk
set_option linter.unusedVariables false
set_option linter.unusedSimpArgs false
namespace Go.Proofs.YtnlkfajnaelnnaaGreatDoor
open Go.RowKit Go.GB

/-! ### A world as it is, read; nothing is known of its draws -/
def snap0 (W : World) : Imm := ⟨fun b => W.heap[b]?, W.os, W.tape, W.output, 0⟩
theorem snap0_holds (W : World) : Holds (snap0 W) [] W := ⟨fun _ _ h => h, by simp, by simp, by simp, rfl, rfl, rfl, Nat.zero_le _⟩
theorem calls_snap0 {P : Program} {f : FuncId} {args : Array Value} {v : Value} {W : World} (h : CallsTo P f args (snap0 W) [] (fun v' I' L' => v' = v ∧ [] = L')) :
    Calls P f args W fun e W' => e = .returned v ∧ Below W.heap.size W W' := by
  refine (h W (snap0_holds W)).mono ?_
  rintro e W' ⟨v', I', L', rfl, hle, hh, rfl, rfl⟩
  have h1 : ∀ b o, W.heap[b]? = some o → W'.heap[b]? = some o := fun b o hb => hh.imm b o (hle.h b o hb)
  have hs : W.heap.size ≤ W'.heap.size := by
    by_cases h0 : W.heap.size = 0
    · omega
    · have h2 := h1 (W.heap.size - 1) _ (Array.getElem?_eq_getElem (by omega))
      have := heapLt h2
      omega
  exact ⟨rfl, hh.os.trans hle.os, hh.tape.trans hle.tape, hh.out.trans hle.out, hs, fun k hk => by rw [h1 k _ (Array.getElem?_eq_getElem hk), Array.getElem?_eq_getElem hk]⟩
theorem snap0_cell {w : World} {b i : Nat} {C : Array Value} {t : TypeId} {fz : Nat × Nat} {v : Value} (h : w.heap[b]? = some (.cells C t fz)) (hi : C[i]? = some v) : (snap0 w).cell ⟨b, i, none⟩ = some v := by
  unfold Imm.cell
  rw [show (snap0 w).h b = some (.cells C t fz) from h]
  exact hi

/-! ### The table of quoted -/
def tabQ : List (List Int) := (List.range 256).map fun i => if i = 10 then [92, 110] else if i = 34 then [92, 34] else if i = 92 then [92, 92] else []
def wordsQ : List ByteArray := [⟨#[10]⟩, ⟨#[34]⟩, ⟨#[92]⟩]

structure QTab (w : World) (gt gr : Nat) : Prop where
  C : ∃ C, w.heap[gr]? = some (.cells C 199 (0, 0)) ∧ (∀ o, o < 256 → (∀ p ∈ pairsL, p.1 ≠ o) → C[o]? = some (.slice none 0 0)) ∧ C[256]? = some (.slice (some ⟨gt, 0, none⟩) 3 3) ∧
    ∀ p ∈ pairsL, ∃ q c fz, C[p.1]? = some (.slice (some ⟨q, 0, none⟩) p.2.size c) ∧ w.heap[q]? = some (.cells (bytesRow p.2 c) 5 fz) ∧ p.2.size ≤ c
  T : w.heap[gt]? = some (.cells (rowT pairsL) 9 (0, 0))

theorem bytes_rep {w : World} {q c : Nat} {fz : Nat × Nat} {s : ByteArray} (h : w.heap[q]? = some (.cells (bytesRow s c) 5 fz)) (hc : s.size ≤ c) (hm : s.size ≤ 2147483648) :
    RepS (Kd.int .u8) (snap0 w) (some ⟨q, 0, none⟩) c (s.data.toList.map fun b => (b.toNat : Int)) := by
  refine ⟨by simpa using hc, by simpa [maxLen'] using hm, fun j y hy => ⟨_, [.int .u8 y], rfl, rfl, ?_⟩⟩
  rw [add_none]
  refine runAt_one (snap0_cell h ?_)
  rw [List.getElem?_map] at hy
  cases hb : s.data.toList[j]? with
  | none => rw [hb] at hy; cases hy
  | some b =>
    rw [hb] at hy
    simp only [Option.map_some, Option.some.injEq] at hy
    subst hy
    have hj : j < s.data.size := by have := (List.getElem?_eq_some_iff.1 hb).1; simpa using this
    have hk : (Kd.int .u8).n = 1 := rfl
    rw [hk, Nat.mul_one, Nat.zero_add, bytesRow, Array.getElem?_append_left (by simpa using hj), Array.getElem?_map]
    rw [Array.getElem?_toList] at hb
    rw [hb]; rfl

theorem QTab.rep {w : World} {gt gr : Nat} (h : QTab w gt gr) : RepT (snap0 w) gr tabQ wordsQ := by
  obtain ⟨⟨C, hC, hn, ht, hr⟩, hT⟩ := h
  refine ⟨by rw [tabQ, List.length_map, List.length_range], fun i x hx => ?_, ⟨some ⟨gt, 0, none⟩, 3, snap0_cell hC ht, ⟨Nat.le_refl 3, by show 3 ≤ 2147483648; omega, fun j y hy => ⟨_, [.string y], rfl, rfl, ?_⟩⟩⟩⟩
  · unfold tabQ at hx
    rw [List.getElem?_map] at hx
    cases hb : (List.range 256)[i]? with
    | none => rw [hb] at hx; cases hx
    | some k =>
      rw [hb] at hx
      obtain ⟨hi, hk⟩ := List.getElem?_eq_some_iff.1 hb
      rw [List.length_range] at hi
      rw [List.getElem_range] at hk
      subst hk
      simp only [Option.map_some, Option.some.injEq] at hx
      have go : ∀ s : ByteArray, (i, s) ∈ pairsL → x = s.data.toList.map (fun b => (b.toNat : Int)) → s.size = 2 →
          ∃ A c, (snap0 w).cell ⟨gr, i, none⟩ = some (.slice A x.length c) ∧ RepS (Kd.int .u8) (snap0 w) A c x ∧ A.isNone = x.isEmpty := by
        intro s hs hx hsz
        obtain ⟨q, c, fz, q1, q2, q3⟩ := hr (i, s) hs
        have hl : x.length = s.size := by rw [hx, List.length_map, Array.length_toList]; rfl
        refine ⟨_, c, snap0_cell hC (by rw [hl]; exact q1), by rw [hx]; exact bytes_rep q2 q3 (by omega), ?_⟩
        cases x with
        | nil => rw [hsz] at hl; simp at hl
        | cons => rfl
      by_cases h1 : i = 10
      · subst h1; exact go ⟨#[92, 110]⟩ (by simp) (by rw [← hx]; decide) rfl
      · by_cases h2 : i = 34
        · subst h2; exact go ⟨#[92, 34]⟩ (by simp) (by rw [← hx]; decide) rfl
        · by_cases h3 : i = 92
          · subst h3; exact go ⟨#[92, 92]⟩ (by simp) (by rw [← hx]; decide) rfl
          · rw [if_neg h1, if_neg h2, if_neg h3] at hx
            subst hx
            exact ⟨none, 0, snap0_cell hC (hn i hi (by simp; omega)), RepS.nil _ _, rfl⟩
  · rw [add_none]
    refine runAt_one (snap0_cell hT ?_)
    have hk : Kd.str.n = 1 := rfl
    rw [hk, Nat.mul_one, Nat.zero_add]
    match j with
    | 0 => cases hy; rfl
    | 1 => cases hy; rfl
    | 2 => cases hy; rfl
    | j + 3 => simp [wordsQ] at hy

theorem afterDoS (g : Nat) (w w1 w' : World) (Y : Array Value) (hg1 : (w.setCell ⟨g, 1, none⟩ (.int .i32 1)).heap[g]? = some (.cells Y 164 (0, 0))) (hY : Y.size = 5)
    (hR : ∃ v gt gr C, BSt (w.setCell ⟨g, 1, none⟩ (.int .i32 1)) v gt gr C pairsL ∧ w1 = (v.setCell ⟨g, 3, none⟩ (.iface 200 (.pointer (some ⟨gr, 0, none⟩)))).setCell ⟨g, 4, none⟩ (.slice none 0 0))
    (hw : w' = (w1.drew.setCell ⟨g, 0, none⟩ (.int .u32 1)).setCell ⟨g, 1, none⟩ (.int .i32 0)) :
    ∃ gt gr, w'.cell? ⟨g, 3, none⟩ = some (.iface 200 (.pointer (some ⟨gr, 0, none⟩))) ∧ QTab w' gt gr ∧ ∀ n, n ≤ g → n ≤ w.heap.size → Below n w w' := by
  obtain ⟨v, gt, gr, C, B, rfl⟩ := hR
  subst hw
  have h3 := heapSet _ g 3 (.iface 200 (.pointer (some ⟨gr, 0, none⟩))) _ _ _ (B.heapOld hg1)
  have h4 := heapSet _ g 4 (.slice none 0 0) _ _ _ h3
  have h4d : ((v.setCell ⟨g, 3, none⟩ (.iface 200 (.pointer (some ⟨gr, 0, none⟩)))).setCell ⟨g, 4, none⟩ (.slice none 0 0)).drew.heap[g]? = some _ := h4
  have h5 := heapSet _ g 1 (.int .i32 0) _ _ _ (heapSet _ g 0 (.int .u32 1) _ _ _ h4d)
  have hlt := heapLt hg1
  have keep : ∀ b O, b ≠ g → v.heap[b]? = some O → (((((v.setCell ⟨g, 3, none⟩ (.iface 200 (.pointer (some ⟨gr, 0, none⟩)))).setCell ⟨g, 4, none⟩ (.slice none 0 0)).drew).setCell ⟨g, 0, none⟩ (.int .u32 1)).setCell ⟨g, 1, none⟩ (.int .i32 0)).heap[b]? = some O := by
    intro b O hne hb
    rw [Below.heap_setCell _ _ _ _ hne, Below.heap_setCell _ _ _ _ hne]
    show (World.setCell _ _ _).heap[b]? = _
    rw [Below.heap_setCell _ _ _ _ hne, Below.heap_setCell _ _ _ _ hne]; exact hb
  have hne : gr ≠ g := by have := B.hr; omega
  have hne2 : gt ≠ g := by have := B.ht; omega
  refine ⟨gt, gr, ?_, ⟨⟨C, keep _ _ hne B.hC, B.nil, B.top, fun p hp => ?_⟩, keep _ _ hne2 B.hT⟩, ?_⟩
  · rw [cellOf _ _ _ _ _ _ h5, Array.getElem?_setIfInBounds_ne (by omega), Array.getElem?_setIfInBounds_ne (by omega), Array.getElem?_setIfInBounds_ne (by omega), Array.getElem?_setIfInBounds_self_of_lt (by omega)]
  · obtain ⟨q, c, fz, q1, _, _, q4, q5, q6⟩ := B.rows p hp
    exact ⟨q, c, fz, q1, keep _ _ (by omega) q5, q6⟩
  · intro n hn hnw
    have hs : (w.setCell ⟨g, 1, none⟩ (.int .i32 1)).heap.size = w.heap.size := by simp [World.setCell]
    exact ((((((Below.refl n w).setCell (p := ⟨g, 1, none⟩) hn _).trans (B.bel.mono (by rw [hs]; exact hnw))).setCell (p := ⟨g, 3, none⟩) hn _).setCell (p := ⟨g, 4, none⟩) hn _).drew.setCell (p := ⟨g, 0, none⟩) hn _).setCell (p := ⟨g, 1, none⟩) hn _

theorem replaceS_walk (s r : ByteArray) (hr : RP.strings_byteStringReplacer_Replace (tabQ, wordsQ) s = some r) {w : World} {gt gr : Nat} (q : QTab w gt gr) :
    Calls Tryz.prog 219 #[.pointer (some ⟨gr, 0, none⟩), .string s] w fun e w' => e = .returned (.string r) ∧ Below w.heap.size w w' := by
  obtain ⟨A, n, q1, q2⟩ := q.rep.words
  exact calls_snap0 (RP.strings_byteStringReplacer_Replace_walk (a0 := (tabQ, wordsQ)) q.rep (by have := q1; rwa [add_none, Nat.zero_add] at this) q2 hr [])

set_option maxRecDepth 100000 in
set_option maxHeartbeats 1600000 in
/-- (*strings.Replacer).Replace at any text. -/
theorem replacerS_walk (s r : ByteArray) (hr : RP.strings_byteStringReplacer_Replace (tabQ, wordsQ) s = some r) (g ga c : Nat) (w : World) (hg : w.heap[g]? = some (.cells #[.int .u32 0, .int .i32 0, .int .u32 0, .nilIface, .slice (some ⟨ga, 0, none⟩) 6 c] 164 (0, 0)))
    (X : Array Value) (ta : TypeId) (fa : Nat × Nat) (ha : w.heap[ga]? = some (.cells X ta fa)) (hX : ∀ i, i < 6 → X[i]? = sixS[i]?) :
    Calls Tryz.prog 108 #[.pointer (some ⟨g, 0, none⟩), .string s] w fun e w' => e = .returned (.string r) ∧ ∀ n, n ≤ g → n ≤ w.heap.size → Below n w w' := by
  have hmf : ∀ (fn : Fn) (first cap : Array Value) (w : World), (Instr.makeFunc fn first cap).run Tryz.prog w = .ok (.func fn first cap) w := fun _ _ _ _ => rfl
  have hg1 : (w.setCell ⟨g, 1, none⟩ (.int .i32 1)).heap[g]? = some (.cells #[.int .u32 0, .int .i32 1, .int .u32 0, .nilIface, .slice (some ⟨ga, 0, none⟩) 6 c] 164 (0, 0)) := heapSet _ _ _ _ _ _ _ hg
  have hne : ga ≠ g := by
    intro e; subst e; rw [hg] at ha
    simp only [Option.some.injEq, Obj.cells.injEq] at ha
    have := hX 0 (by omega); rw [← ha.1] at this; simp at this
  have hF := buildOnce_walk g ga c (w.setCell ⟨g, 1, none⟩ (.int .i32 1)) _ _ _ _ hg1 X ta fa (by rw [Below.heap_setCell _ _ _ _ hne]; exact ha) hX
  have hD := do_first g w (fun w1 => ∃ v gt gr C, BSt (w.setCell ⟨g, 1, none⟩ (.int .i32 1)) v gt gr C pairsL ∧ w1 = (v.setCell ⟨g, 3, none⟩ (.iface 200 (.pointer (some ⟨gr, 0, none⟩)))).setCell ⟨g, 4, none⟩ (.slice none 0 0))
    (cellOf _ _ _ _ _ _ hg) (cellOf _ _ _ _ _ _ hg) (frozenOf _ _ _ _ _ hg) (frozenOf _ _ _ _ _ hg) (hF.mono (by
      rintro e w' ⟨rfl, v, gt, gr, C, B, rfl⟩
      have hh := heapSet _ g 4 (.slice none 0 0) _ _ _ (heapSet _ g 3 (.iface 200 (.pointer (some ⟨gr, 0, none⟩))) _ _ _ (B.heapOld hg1))
      exact ⟨rfl, ⟨v, gt, gr, C, B, rfl⟩, cellOf _ _ _ _ _ _ hh, cellOf _ _ _ _ _ _ hh, frozenOf _ _ _ _ _ hh, frozenOf _ _ _ _ _ hh⟩))
  have hgh : Hid _ := hg1
  have hrh : Hid _ := hr
  clear hg ha hX hF hg1 hr
  go_enter Tryz.func108, Tryz.ntmps108
  go_wp2_with (first | (go_at_call 130; refine hD.mono ?_; rintro e w' ⟨rfl, w1, hR, hw⟩; obtain ⟨gt, gr, e3, qt, hbel⟩ := afterDoS g w w1 w' _ hgh.out rfl hR hw; clear hR hw hD; have hb : Hid _ := hbel; have hq : Hid _ := qt; clear hbel qt) | (go_at_call 219; refine (replaceS_walk s r hrh.out hq.out).mono ?_; rintro e w2 ⟨rfl, h2⟩; have h2h : Hid _ := h2; clear h2))
  go_ret
  refine ⟨rfl, fun n h1 h3 => ?_⟩
  have hb1 := hb.out n h1 h3
  exact hb1.trans (h2h.out.mono (by have := hb1.size; omega))

set_option maxRecDepth 100000 in
set_option maxHeartbeats 1600000 in
/-- labels.quoted at any text. -/
theorem quotedS_walk (s r : ByteArray) (hr : RP.strings_byteStringReplacer_Replace (tabQ, wordsQ) s = some r) (hz : r.size ≤ 1000000000) (w : World) :
    Calls Tryz.prog 63 #[.string s] w fun e w' => e = .returned (.string (⟨#[34]⟩ ++ r ++ ⟨#[34]⟩)) ∧ Below w.heap.size w w' := by
  have hrh : Hid _ := hr
  have z1 : ¬ 9223372036854775807 < 1 + r.size := by omega
  have z2 : ¬ 9223372036854775807 < 1 + r.size + 1 := by omega
  clear hr hz
  go_enter Tryz.func63, Tryz.ntmps63
  go_wp2_with (first | (go_at_call 107; refine (newReplacer_walk _ _ (heapNew _ _)).mono ?_; rintro e v ⟨g, ga, c, X, ta, fa, rfl, hB, hle, hg, ha, hX⟩; have rp := replacerS_walk s r hrh.out g ga c v hg X ta fa ha hX; have hb : Hid _ := hB; have hl : Hid _ := hle; clear hB hle hg ha hX) | (go_at_call 108; refine rp.mono ?_; rintro e w2 ⟨rfl, h2⟩; have h2h : Hid _ := h2; clear h2 rp))
  go_ret
  have hsz : (w.alloc (.cells sixS 9)).heap.size = w.heap.size + 1 := Array.size_push ..
  have b1 : Below w.heap.size w (w.alloc (.cells sixS 9)) := (Below.refl _ _).alloc (Nat.le_refl _) _
  have b2 := hb.out.mono (B' := w.heap.size) (by rw [hsz]; omega)
  have l2 := hl.out
  have s2 := hb.out.size
  rw [hsz] at l2 s2
  exact ⟨rfl, (b1.trans b2).trans (h2h.out w.heap.size (by omega) (by omega))⟩
end Go.Proofs.YtnlkfajnaelnnaaGreatDoor
