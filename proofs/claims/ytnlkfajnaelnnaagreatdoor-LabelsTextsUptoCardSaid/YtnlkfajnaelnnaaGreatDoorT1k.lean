/- (*strings.Replacer).build at the three pairs that labels.quoted hands in. -/
import Derived.Test.YtnlkfajnaelnnaaGreatDoorT0k
import Derived.Handy
import Derived.Lib.Builder
import Derived.Laws.MakeOwn
import Derived.Laws.NewBlocks
import Derived.Deep.WholeRow
import Derived.Laws.AppendOwn
import Derived.Below
import Derived.Lib.SliceRun
set_option linter.unusedVariables false
set_option linter.unusedSimpArgs false
namespace Go.Proofs.YtnlkfajnaelnnaaGreatDoor
open Go.RowKit
theorem zc199 : Tryz.zeroCells199 = Array.replicate 257 (.slice none 0 0) := by kernel_rfl

theorem mk44 (w : World) : (Instr.makeSlice 44 (.int .i64 0) (.int .i64 3)).run Tryz.prog w = .ok (.slice (some ⟨w.heap.size, 0, none⟩) 0 3) (w.alloc (.cells #[.string ⟨#[]⟩, .string ⟨#[]⟩, .string ⟨#[]⟩] 9)) := by
  obtain ⟨i, hi, hz, h1, h2⟩ : ∃ i, Tryz.prog.info? 9 = some i ∧ i.zero = some (.string ⟨#[]⟩) ∧ i.size = 1 ∧ i.bytes = 16 := by
    obtain ⟨i, hi, h⟩ := Option.map_eq_some_iff.1 (show (Tryz.prog.info? 9).map (fun i => (i.zero, i.size, i.bytes)) = some (some (.string ⟨#[]⟩), 1, 16) by kernel_rfl)
    simp only [Prod.mk.injEq] at h
    exact ⟨i, hi, h.1, h.2.1, h.2.2⟩
  rw [run_make w 44 9 i _ Tryz.underlying44 hi hz .i64 .i64 0 3 (by omega) (by omega) (by omega) (by omega), h1]
  have : madeCells (Value.string ⟨#[]⟩).cells (Int.toNat 3 * 1) = #[.string ⟨#[]⟩, .string ⟨#[]⟩, .string ⟨#[]⟩] := by
    simp [madeCells, Value.cells]
    apply Array.ext_getElem?
    intro k
    match k with
    | 0 => simp
    | 1 => simp
    | 2 => simp
    | k + 3 => simp
  rw [this]; rfl

theorem st199 (W : World) (v : Value) (hv : v.oneCell' = true) : (storeCells ⟨W.heap.size, 0, none⟩ (Tryz.zeroCells199.toList.set 256 v)).run Tryz.prog (W.alloc (.cells Tryz.zeroCells199 199))
      = .ok () (W.alloc (.cells (Tryz.zeroCells199.toList.set 256 v).toArray 199)) := by
  rw [run_storeCells_from (P := Tryz.prog) W.heap.size 199 _ 0 Tryz.zeroCells199 _ (by show (W.heap.push _)[_]? = _; simp) (by rw [zc199, List.length_set, Array.length_toList, Nat.zero_add]) ?_]
  · rw [World.setRow_alloc_new, List.take_zero, List.nil_append]
  · intro x hx
    rcases List.mem_or_eq_of_mem_set hx with h | h
    · rw [zc199] at h
      rw [Array.toList_replicate, List.mem_replicate] at h
      rw [h.2]; rfl
    · rw [h]; exact hv


theorem cellOf (v : World) (b i : Nat) (C : Array Value) (t : TypeId) (fz : Nat × Nat) (h : v.heap[b]? = some (.cells C t fz)) : v.cell? ⟨b, i, none⟩ = C[i]? := by
  simp [World.cell?, h]
theorem frozenOf (v : World) (b i : Nat) (C : Array Value) (t : TypeId) (h : v.heap[b]? = some (.cells C t (0, 0))) : v.frozen? ⟨b, i, none⟩ = false := by
  simp [World.frozen?, h]
theorem heapLt {v : World} {b : Nat} {o : Obj} (h : v.heap[b]? = some o) : b < v.heap.size := (Array.getElem?_eq_some_iff.1 h).1
theorem heapNew (v : World) (o : Obj) : (v.alloc o).heap[v.heap.size]? = some o := by show (v.heap.push o)[_]? = _; simp

def txt1 (p : Nat × ByteArray) : Value := .string ⟨#[UInt8.ofNat p.1]⟩
def rowT (L : List (Nat × ByteArray)) : Array Value := (L.map txt1 ++ List.replicate (3 - L.length) (Value.string ⟨#[]⟩)).toArray

theorem cv1 (v : World) (b : UInt8) : (convert 51 9 (.slice (some ⟨v.heap.size, 0, none⟩) 1 1)).run Tryz.prog (v.alloc (.cells #[.int .u8 b.toNat] 5)) = .ok (.string ⟨#[b]⟩) (v.alloc (.cells #[.int .u8 b.toNat] 5)) :=
  run_convert_bytes_back _ 51 9 5 ⟨v.heap.size, 0, none⟩ 1 [b] Tryz.underlying51 Tryz.underlying5 Tryz.underlying9 (by
    intro j hj
    match j with
    | 0 => rw [show (⟨v.heap.size, 0, none⟩ : Addr).add 0 = ⟨v.heap.size, 0, none⟩ from rfl, cellOf _ _ _ _ _ _ (heapNew _ _)]; rfl
    | j + 1 => simp at hj)

theorem heapSet (v : World) (b i : Nat) (x : Value) (C : Array Value) (t : TypeId) (fz : Nat × Nat) (h : v.heap[b]? = some (.cells C t fz)) : (v.setCell ⟨b, i, none⟩ x).heap[b]? = some (.cells (C.setIfInBounds i x) t fz) := by
  rw [setCell_eq_setRow v b i C t fz x h]
  exact setRow_heap _ _ _ _ _ _ h

/-- What there is of a replacer that is being built: gt the row of the bytes that turn, gr the table; L: byte and text, in the order of their coming. -/
structure BSt (w v : World) (gt gr : Nat) (C : Array Value) (L : List (Nat × ByteArray)) : Prop where
  bel : Below w.heap.size w v
  ht : w.heap.size ≤ gt
  hr : w.heap.size ≤ gr
  ne : gt ≠ gr
  len : L.length ≤ 3
  hT : v.heap[gt]? = some (.cells (rowT L) 9 (0, 0))
  hC : v.heap[gr]? = some (.cells C 199 (0, 0))
  size : C.size = 257
  nil : ∀ o, o < 256 → (∀ p ∈ L, p.1 ≠ o) → C[o]? = some (.slice none 0 0)
  top : C[256]? = some (.slice (some ⟨gt, 0, none⟩) L.length 3)
  rows : ∀ p ∈ L, ∃ q c fz, C[p.1]? = some (.slice (some ⟨q, 0, none⟩) p.2.size c) ∧ q ≠ gt ∧ q ≠ gr ∧ w.heap.size ≤ q ∧ v.heap[q]? = some (.cells (bytesRow p.2 c) 5 fz) ∧ p.2.size ≤ c

theorem BSt.old {w v : World} {gt gr C L} (h : BSt w v gt gr C L) {b i : Nat} {x : Value} (hx : w.cell? ⟨b, i, none⟩ = some x) : v.cell? ⟨b, i, none⟩ = some x := by
  have hb : b < w.heap.size := by
    by_cases k : b < w.heap.size
    · exact k
    · rw [World.cell?, Array.getElem?_eq_none (by simpa using k)] at hx; cases hx
  rw [← hx]
  simp only [World.cell?, h.bel.block b hb]

theorem BSt.cell {w v : World} {gt gr C L} (h : BSt w v gt gr C L) (i : Nat) : v.cell? ⟨gr, i, none⟩ = C[i]? := cellOf _ _ _ _ _ _ h.hC

theorem BSt.zero (w : World) : ∃ C, BSt w ((w.alloc (.cells #[.string ⟨#[]⟩, .string ⟨#[]⟩, .string ⟨#[]⟩] 9)).alloc (.cells (Tryz.zeroCells199.toList.set 256 (.slice (some ⟨w.heap.size, 0, none⟩) 0 3)).toArray 199)) w.heap.size (w.heap.size + 1) C [] := by
  have hsz : (w.alloc (.cells #[.string ⟨#[]⟩, .string ⟨#[]⟩, .string ⟨#[]⟩] 9)).heap.size = w.heap.size + 1 := Array.size_push ..
  refine ⟨(Tryz.zeroCells199.toList.set 256 (.slice (some ⟨w.heap.size, 0, none⟩) 0 3)).toArray, ?_⟩
  refine { bel := ?_, ht := Nat.le_refl _, hr := Nat.le_succ _, ne := by omega, len := by simp, hT := ?_, hC := ?_, size := ?_, nil := ?_, top := ?_, rows := ?_ }
  · exact ((Below.refl _ _).alloc (Nat.le_refl _) _).alloc (by rw [hsz]; omega) _
  · rw [Below.heap_alloc _ _ _ (by rw [hsz]; omega), heapNew]; rfl
  · rw [← hsz]; exact heapNew _ _
  · rw [List.size_toArray, List.length_set, zc199]; simp only [Array.length_toList, Array.size_replicate]
  · intro o ho _
    rw [List.getElem?_toArray, List.getElem?_set_ne (by omega), zc199, Array.getElem?_toList, Array.getElem?_replicate, if_pos (by omega)]
  · rw [List.getElem?_toArray, zc199, List.getElem?_set_self (by rw [Array.length_toList, Array.size_replicate]; omega)]; rfl
  · intro p hp; cases hp

theorem BSt.mid {w v : World} {gt gr C L} (h : BSt w v gt gr C L) (a1 a2 : Obj) :
    (∀ i, ((v.alloc a1).alloc a2).cell? ⟨gr, i, none⟩ = C[i]?) ∧ (∀ i, ((v.alloc a1).alloc a2).frozen? ⟨gr, i, none⟩ = false) ∧
    (∀ i, ((v.alloc a1).alloc a2).cell? ⟨gt, i, none⟩ = (rowT L)[i]?) ∧ (∀ i, ((v.alloc a1).alloc a2).frozen? ⟨gt, i, none⟩ = false) ∧ gr < v.heap.size ∧ gt < v.heap.size := by
  have hsz : (v.alloc a1).heap.size = v.heap.size + 1 := Array.size_push ..
  have hg : ((v.alloc a1).alloc a2).heap[gr]? = some (.cells C 199 (0, 0)) := by
    have := heapLt h.hC
    rw [Below.heap_alloc _ _ _ (by rw [hsz]; omega), Below.heap_alloc _ _ _ this]; exact h.hC
  have ht : ((v.alloc a1).alloc a2).heap[gt]? = some (.cells (rowT L) 9 (0, 0)) := by
    have := heapLt h.hT
    rw [Below.heap_alloc _ _ _ (by rw [hsz]; omega), Below.heap_alloc _ _ _ this]; exact h.hT
  exact ⟨fun i => cellOf _ _ _ _ _ _ hg, fun i => frozenOf _ _ _ _ _ hg, fun i => cellOf _ _ _ _ _ _ ht, fun i => frozenOf _ _ _ _ _ ht, heapLt h.hC, heapLt h.hT⟩

theorem rowT_at (L : List (Nat × ByteArray)) (h : L.length < 3) : (rowT L)[L.length]? = some (.string ⟨#[]⟩) := by
  rw [rowT, List.getElem?_toArray, List.getElem?_append_right (by simp), List.length_map, Nat.sub_self, List.getElem?_replicate, if_pos (by omega)]

theorem rowT_more (L : List (Nat × ByteArray)) (p : Nat × ByteArray) (h : L.length < 3) : (rowT L).setIfInBounds L.length (txt1 p) = rowT (L ++ [p]) := by
  apply Array.ext_getElem?
  intro i
  rw [rowT, rowT, List.setIfInBounds_toArray, List.getElem?_toArray, List.getElem?_toArray, List.set_append_right _ _ (by simp)]
  rw [List.length_map, Nat.sub_self, List.map_append, List.length_append, List.append_assoc]
  congr 2
  rw [show 3 - L.length = (3 - (L.length + [p].length)) + 1 by simp only [List.length_cons, List.length_nil]; omega, List.replicate_succ]
  rfl

theorem BSt.facts {w v : World} {gt gr C L} (h : BSt w v gt gr C L) (k o : Nat) (hk : k = L.length) (hL : k < 3) (ho : o < 256) (hno : ∀ p ∈ L, p.1 ≠ o) (A1 A2 : Obj) :
    v.cell? ⟨gr, o, none⟩ = some (.slice none 0 0) ∧ v.cell? ⟨gr, 256, none⟩ = some (.slice (some ⟨gt, 0, none⟩) k 3) ∧
    ((v.alloc A1).alloc A2).cell? ⟨gt, k, none⟩ = some (.string ⟨#[]⟩) ∧ ((v.alloc A1).alloc A2).frozen? ⟨gt, k, none⟩ = false ∧
    ((v.alloc A1).alloc A2).cell? ⟨gr, 256, none⟩ = some (.slice (some ⟨gt, 0, none⟩) k 3) ∧ ((v.alloc A1).alloc A2).frozen? ⟨gr, 256, none⟩ = false ∧
    ((v.alloc A1).alloc A2).cell? ⟨gr, o, none⟩ = some (.slice none 0 0) ∧ ((v.alloc A1).alloc A2).frozen? ⟨gr, o, none⟩ = false ∧
    gr < v.heap.size ∧ gt < v.heap.size ∧ (¬ gt = gr) ∧ (¬ gr = gt) ∧
    (∀ (x y : Value) (z : Obj), (((((v.setCell ⟨gt, k, none⟩ x).setCell ⟨gr, 256, none⟩ y).alloc A1).alloc A2).alloc z).cell? ⟨gr, o, none⟩ = some (.slice none 0 0)) ∧
    (∀ (x y : Value) (z : Obj), (((((v.setCell ⟨gt, k, none⟩ x).setCell ⟨gr, 256, none⟩ y).alloc A1).alloc A2).alloc z).frozen? ⟨gr, o, none⟩ = false) ∧
    (∀ x : Value, (((v.setCell ⟨gt, k, none⟩ x).alloc A1).alloc A2).cell? ⟨gr, 256, none⟩ = some (.slice (some ⟨gt, 0, none⟩) k 3)) ∧
    (∀ x : Value, (((v.setCell ⟨gt, k, none⟩ x).alloc A1).alloc A2).frozen? ⟨gr, 256, none⟩ = false) := by
  have M := h.mid A1 A2
  have n := h.nil o ho hno
  have t := h.top
  subst hk
  have hsz : ∀ (W : World) (z : Obj), (W.alloc z).heap.size = W.heap.size + 1 := fun W z => Array.size_push ..
  have hs2 : ∀ (W : World) (p : Addr) (x : Value), (W.setCell p x).heap.size = W.heap.size := fun W p x => by simp [World.setCell]
  have big : ∀ (x y : Value) (z : Obj), (((((v.setCell ⟨gt, L.length, none⟩ x).setCell ⟨gr, 256, none⟩ y).alloc A1).alloc A2).alloc z).heap[gr]? = some (.cells (C.setIfInBounds 256 y) 199 (0, 0)) := by
    intro x y z
    have hlt := heapLt h.hC
    rw [Below.heap_alloc _ _ _ (by rw [hsz, hsz, hs2, hs2]; omega), Below.heap_alloc _ _ _ (by rw [hsz, hs2, hs2]; omega), Below.heap_alloc _ _ _ (by rw [hs2, hs2]; omega)]
    exact heapSet _ _ _ _ _ _ _ (by rw [Below.heap_setCell _ _ _ _ (fun e => h.ne e.symm)]; exact h.hC)
  have big1 : ∀ (x : Value), (((v.setCell ⟨gt, L.length, none⟩ x).alloc A1).alloc A2).heap[gr]? = some (.cells C 199 (0, 0)) := by
    intro x
    have hlt := heapLt h.hC
    rw [Below.heap_alloc _ _ _ (by rw [hsz, hs2]; omega), Below.heap_alloc _ _ _ (by rw [hs2]; omega), Below.heap_setCell _ _ _ _ (fun e => h.ne e.symm)]
    exact h.hC
  refine ⟨(h.cell o).trans n, (h.cell 256).trans t, (M.2.2.1 _).trans (rowT_at L hL), M.2.2.2.1 _, (M.1 256).trans t, M.2.1 256, (M.1 o).trans n, M.2.1 o, M.2.2.2.2.1, M.2.2.2.2.2, h.ne, fun e => h.ne e.symm, ?_, ?_, ?_, ?_⟩
  · intro x y z
    rw [cellOf _ _ _ _ _ _ (big x y z), Array.getElem?_setIfInBounds_ne (by omega)]; exact n
  · intro x y z
    exact frozenOf _ _ _ _ _ (big x y z)
  · intro x
    rw [cellOf _ _ _ _ _ _ (big1 x)]; exact t
  · intro x
    exact frozenOf _ _ _ _ _ (big1 x)

/-- One more. -/
theorem BSt.more {w v : World} {gt gr C L} (h : BSt w v gt gr C L) (k o : Nat) (hk : k = L.length) (hL : k < 3) (ho : o < 256) (hno : ∀ p ∈ L, p.1 ≠ o) (A1 A2 A3 : Obj) (s : ByteArray) (c n : Nat) (fz : Nat × Nat) (x : Value) (hx : x = txt1 (o, s)) (hn : n = s.size)
    (h3 : A3 = .cells (bytesRow s c) 5 fz ∧ s.size ≤ c) :
    BSt w ((((((((v.setCell ⟨gt, k, none⟩ x).setCell ⟨gr, 256, none⟩ (.slice (some ⟨gt, 0, none⟩) (k + 1) 3)).alloc A1).alloc A2).alloc A3).setCell ⟨gr, o, none⟩ (.slice (some ⟨v.heap.size + 1 + 1, 0, none⟩) n c)).drew)) gt gr
      ((C.setIfInBounds 256 (.slice (some ⟨gt, 0, none⟩) (k + 1) 3)).setIfInBounds o (.slice (some ⟨v.heap.size + 1 + 1, 0, none⟩) n c)) (L ++ [(o, s)]) := by
  obtain ⟨h3, hcs⟩ := h3
  subst hk; subst hx; subst hn; subst h3
  have hsz : ∀ (W : World) (z : Obj), (W.alloc z).heap.size = W.heap.size + 1 := fun W z => Array.size_push ..
  have hs2 : ∀ (W : World) (p : Addr) (x : Value), (W.setCell p x).heap.size = W.heap.size := fun W p x => by simp [World.setCell]
  have hlc := heapLt h.hC
  have hlt := heapLt h.hT
  have hw := h.bel.size
  have cnt : (L ++ [(o, s)]).length = L.length + 1 := by simp
  have step : ∀ (q : Nat) (O : Obj), q < v.heap.size → ((v.setCell ⟨gt, L.length, none⟩ (txt1 (o, s))).setCell ⟨gr, 256, none⟩ (.slice (some ⟨gt, 0, none⟩) (L.length + 1) 3)).heap[q]? = some O →
      (((((v.setCell ⟨gt, L.length, none⟩ (txt1 (o, s))).setCell ⟨gr, 256, none⟩ (.slice (some ⟨gt, 0, none⟩) (L.length + 1) 3)).alloc A1).alloc A2).alloc (.cells (bytesRow s c) 5 fz)).heap[q]? = some O := by
    intro q O hq hO
    rw [Below.heap_alloc _ _ _ (by rw [hsz, hsz, hs2, hs2]; omega), Below.heap_alloc _ _ _ (by rw [hsz, hs2, hs2]; omega), Below.heap_alloc _ _ _ (by rw [hs2, hs2]; omega)]
    exact hO
  refine { bel := ?_, ht := h.ht, hr := h.hr, ne := h.ne, len := by rw [cnt]; omega, hT := ?_, hC := ?_, size := ?_, nil := ?_, top := ?_, rows := ?_ }
  · exact ((((((h.bel.setCell h.ht _).setCell h.hr _).alloc (by rw [hs2, hs2]; omega) _).alloc (by rw [hsz, hs2, hs2]; omega) _).alloc (by rw [hsz, hsz, hs2, hs2]; omega) _).setCell h.hr _).drew
  · show (World.setCell _ _ _).heap[gt]? = _
    rw [Below.heap_setCell _ _ _ _ h.ne]
    refine step gt _ hlt ?_
    rw [Below.heap_setCell _ _ _ _ h.ne, ← rowT_more L (o, s) hL]
    exact heapSet _ _ _ _ _ _ _ h.hT
  · show (World.setCell _ _ _).heap[gr]? = _
    refine heapSet _ _ _ _ _ _ _ (step gr _ hlc ?_)
    exact heapSet _ _ _ _ _ _ _ (by rw [Below.heap_setCell _ _ _ _ (fun e => h.ne e.symm)]; exact h.hC)
  · rw [Array.size_setIfInBounds, Array.size_setIfInBounds]; exact h.size
  · intro i hi hp
    have hio : i ≠ o := fun e => hp (o, s) (by simp) e.symm
    rw [Array.getElem?_setIfInBounds_ne (fun e => hio e.symm), Array.getElem?_setIfInBounds_ne (by omega)]
    exact h.nil i hi (fun p hpL => hp p (by simp [hpL]))
  · rw [Array.getElem?_setIfInBounds_ne (by omega), Array.getElem?_setIfInBounds_self_of_lt (by rw [h.size]; omega), cnt]
  · intro p hp
    rcases List.mem_append.1 hp with hp | hp
    · obtain ⟨q, c', fz', e1, e2, e3, e4, e5, e6⟩ := h.rows p hp
      have hpo := hno p hp
      have hp256 : 256 ≠ p.1 := by
        intro e; rw [← e, h.top] at e1; simp only [Option.some.injEq, Value.slice.injEq, Addr.mk.injEq] at e1; exact e2 e1.1.1.symm
      refine ⟨q, c', fz', ?_, e2, e3, e4, ?_, e6⟩
      · rw [Array.getElem?_setIfInBounds_ne (fun e => hpo e.symm), Array.getElem?_setIfInBounds_ne hp256]; exact e1
      · show (World.setCell _ _ _).heap[q]? = _
        rw [Below.heap_setCell _ _ _ _ e3]
        refine step q _ (heapLt e5) ?_
        rw [Below.heap_setCell _ _ _ _ e3, Below.heap_setCell _ _ _ _ e2]; exact e5
    · simp only [List.mem_singleton] at hp; subst hp
      refine ⟨v.heap.size + 1 + 1, c, fz, ?_, by omega, by omega, by omega, ?_, hcs⟩
      · rw [Array.getElem?_setIfInBounds_self_of_lt (by rw [Array.size_setIfInBounds, h.size]; omega)]
      · show (World.setCell _ _ _).heap[_]? = _
        rw [Below.heap_setCell _ _ _ _ (by show _ ≠ gr; omega)]
        have : ((((v.setCell ⟨gt, L.length, none⟩ (txt1 (o, s))).setCell ⟨gr, 256, none⟩ (.slice (some ⟨gt, 0, none⟩) (L.length + 1) 3)).alloc A1).alloc A2).heap.size = v.heap.size + 1 + 1 := by rw [hsz, hsz, hs2, hs2]
        rw [← this]; exact heapNew _ _

set_option maxRecDepth 100000 in
set_option maxHeartbeats 3200000 in
theorem build_walk (g ga c : Nat) (w : World) (h2 : w.cell? ⟨g, 4, none⟩ = some (.slice (some ⟨ga, 0, none⟩) 6 c))
    (s0 : w.cell? ⟨ga, 0, none⟩ = some (.string ⟨#[92]⟩)) (s1 : w.cell? ⟨ga, 1, none⟩ = some (.string ⟨#[92, 92]⟩))
    (s2 : w.cell? ⟨ga, 2, none⟩ = some (.string ⟨#[34]⟩)) (s3 : w.cell? ⟨ga, 3, none⟩ = some (.string ⟨#[92, 34]⟩))
    (s4 : w.cell? ⟨ga, 4, none⟩ = some (.string ⟨#[10]⟩)) (s5 : w.cell? ⟨ga, 5, none⟩ = some (.string ⟨#[92, 110]⟩)) :
    Calls Tryz.prog 141 #[.pointer (some ⟨g, 0, none⟩)] w fun e w' => ∃ gt gr C, e = .returned (.iface 200 (.pointer (some ⟨gr, 0, none⟩))) ∧ BSt w w' gt gr C [(10, ⟨#[92, 110]⟩), (34, ⟨#[92, 34]⟩), (92, ⟨#[92, 92]⟩)] := by
  have hmk := mk44 w
  have hst := st199 (w.alloc (.cells #[.string ⟨#[]⟩, .string ⟨#[]⟩, .string ⟨#[]⟩] 9)) (.slice (some ⟨w.heap.size, 0, none⟩) 0 3) rfl
  rw [show (w.alloc (.cells #[.string ⟨#[]⟩, .string ⟨#[]⟩, .string ⟨#[]⟩] 9)).heap.size = w.heap.size + 1 by exact Array.size_push ..] at hst
  go_enter Tryz.func141, Tryz.ntmps141
  go_wp2
  refine wp_loop_rounds 4 ?_
  rw [rounds_succ]; go_wp2
  rw [rounds_succ]; go_wp2
  rw [rounds_succ]; go_wp2
  rw [rounds_succ]; go_wp2
  clear hmk hst
  obtain ⟨C0, B0⟩ := BSt.zero w
  have old : ∀ {b i x}, w.cell? ⟨b, i, none⟩ = some x → World.cell? _ ⟨b, i, none⟩ = some x := fun hx => B0.old hx
  generalize hv : ((w.alloc (.cells #[.string ⟨#[]⟩, .string ⟨#[]⟩, .string ⟨#[]⟩] 9)).alloc (.cells (Tryz.zeroCells199.toList.set 256 (.slice (some ⟨w.heap.size, 0, none⟩) 0 3)).toArray 199)) = v at B0 ⊢
  generalize hgt : w.heap.size = gt at B0 ⊢
  generalize hgr : gt + 1 = gr at B0 ⊢
  clear hv hgr hgt
  have qT : ∀ (w : World) (a : Option Addr) (n c n' c' : Nat), (binOp .eql 51 (.slice a n c) (.slice none n' c')).run Tryz.prog w = .ok (.bool a.isNone) w := fun w a n c n' c' => Lib.run_eql_slice_nil w _ _ a n c n' c' Tryz.underlying51
  have x10 : ∀ h, ((⟨#[10]⟩ : ByteArray)[0]'h).toNat = 10 := fun _ => rfl
  have x34 : ∀ h, ((⟨#[34]⟩ : ByteArray)[0]'h).toNat = 34 := fun _ => rfl
  have x92 : ∀ h, ((⟨#[92]⟩ : ByteArray)[0]'h).toNat = 92 := fun _ => rfl
  refine wp_loop_rounds 4 ?_
  have r4 := B0.old s4; have r5 := B0.old s5
  have cv : (convert 51 9 (.slice (some ⟨v.heap.size, 0, none⟩) 1 1)).run Tryz.prog (v.alloc (.cells #[.int .u8 10] 5)) = .ok (.string ⟨#[10]⟩) (v.alloc (.cells #[.int .u8 10] 5)) := cv1 v 10
  obtain ⟨f1, f2, f3, f4, f5, f6, f7, f8, f9, f10, f11, f12, f13, f14, f15, f16⟩ := B0.facts 0 10 rfl (by omega) (by omega) (by simp) (.cells #[.int .u8 10] 5) (.cells #[.string ⟨#[10]⟩] 9)
  obtain ⟨F, R, hFR, cs⟩ : ∃ (F : World → Nat) (R : World → Obj), Hid (∀ W, ∃ fz, R W = .cells (bytesRow ⟨#[92, 110]⟩ (F W)) 5 fz ∧ (⟨#[92, 110]⟩ : ByteArray).size ≤ F W) ∧ ∀ W : World, (convert 9 51 (.string ⟨#[92, 110]⟩)).run Tryz.prog W = .ok (.slice (some ⟨W.heap.size, 0, none⟩) 2 (F W)) (W.drew.alloc (R W)) :=
    ⟨fun W => grownCap W 2 0 5, _, fun W => ⟨_, rfl, grownCap_ge W 2 0 5⟩, fun W => run_bytes_of_string W 9 51 5 ⟨#[92, 110]⟩ Tryz.underlying9 Tryz.underlying51 Tryz.underlying5⟩
  have B0h : Hid (BSt w v gt gr _ []) := B0
  clear B0
  rw [rounds_succ]; go_wp2
  obtain ⟨fz, h3⟩ := hFR ((((v.setCell ⟨gt, 0, none⟩ (.string ⟨#[10]⟩)).setCell ⟨gr, 256, none⟩ (.slice (some ⟨gt, 0, none⟩) 1 3)).alloc (.cells #[.int .u8 10] 5)).alloc (.cells #[.string ⟨#[10]⟩] 9))
  have B1 := BSt.more B0h.out 0 10 rfl (by omega) (by omega) (by simp) (.cells #[.int .u8 10] 5) (.cells #[.string ⟨#[10]⟩] 9) _ ⟨#[92, 110]⟩ _ 2 fz (.string ⟨#[10]⟩) rfl rfl h3
  clear r4 r5 cv f1 f2 f3 f4 f5 f6 f7 f8 f9 f10 f11 f12 f13 f14 f15 f16 cs hFR h3 B0h
  generalize World.drew (World.setCell (World.alloc (World.alloc (World.alloc (World.setCell (World.setCell v _ _) _ _) _) _) _) _ _) = v1 at B1 ⊢
  have r2 := B1.old s2; have r3 := B1.old s3
  have cv : (convert 51 9 (.slice (some ⟨v1.heap.size, 0, none⟩) 1 1)).run Tryz.prog (v1.alloc (.cells #[.int .u8 34] 5)) = .ok (.string ⟨#[34]⟩) (v1.alloc (.cells #[.int .u8 34] 5)) := cv1 v1 34
  obtain ⟨f1, f2, f3, f4, f5, f6, f7, f8, f9, f10, f11, f12, f13, f14, f15, f16⟩ := B1.facts 1 34 rfl (by omega) (by omega) (by simp) (.cells #[.int .u8 34] 5) (.cells #[.string ⟨#[34]⟩] 9)
  obtain ⟨F, R, hFR, cs⟩ : ∃ (F : World → Nat) (R : World → Obj), Hid (∀ W, ∃ fz, R W = .cells (bytesRow ⟨#[92, 34]⟩ (F W)) 5 fz ∧ (⟨#[92, 34]⟩ : ByteArray).size ≤ F W) ∧ ∀ W : World, (convert 9 51 (.string ⟨#[92, 34]⟩)).run Tryz.prog W = .ok (.slice (some ⟨W.heap.size, 0, none⟩) 2 (F W)) (W.drew.alloc (R W)) :=
    ⟨fun W => grownCap W 2 0 5, _, fun W => ⟨_, rfl, grownCap_ge W 2 0 5⟩, fun W => run_bytes_of_string W 9 51 5 ⟨#[92, 34]⟩ Tryz.underlying9 Tryz.underlying51 Tryz.underlying5⟩
  have B1h : Hid (BSt w v1 gt gr _ [(10, ⟨#[92, 110]⟩)]) := B1
  clear B1
  rw [rounds_succ]; go_wp2
  obtain ⟨fz, h3⟩ := hFR ((((v1.setCell ⟨gt, 1, none⟩ (.string ⟨#[34]⟩)).setCell ⟨gr, 256, none⟩ (.slice (some ⟨gt, 0, none⟩) 2 3)).alloc (.cells #[.int .u8 34] 5)).alloc (.cells #[.string ⟨#[34]⟩] 9))
  have B2 := BSt.more B1h.out 1 34 rfl (by omega) (by omega) (by simp) (.cells #[.int .u8 34] 5) (.cells #[.string ⟨#[34]⟩] 9) _ ⟨#[92, 34]⟩ _ 2 fz (.string ⟨#[34]⟩) rfl rfl h3
  clear r2 r3 cv f1 f2 f3 f4 f5 f6 f7 f8 f9 f10 f11 f12 f13 f14 f15 f16 cs hFR h3 B1h
  generalize World.drew (World.setCell (World.alloc (World.alloc (World.alloc (World.setCell (World.setCell v1 _ _) _ _) _) _) _) _ _) = v2 at B2 ⊢
  have r0 := B2.old s0; have r1 := B2.old s1
  have cv : (convert 51 9 (.slice (some ⟨v2.heap.size, 0, none⟩) 1 1)).run Tryz.prog (v2.alloc (.cells #[.int .u8 92] 5)) = .ok (.string ⟨#[92]⟩) (v2.alloc (.cells #[.int .u8 92] 5)) := cv1 v2 92
  obtain ⟨f1, f2, f3, f4, f5, f6, f7, f8, f9, f10, f11, f12, f13, f14, f15, f16⟩ := B2.facts 2 92 rfl (by omega) (by omega) (by simp) (.cells #[.int .u8 92] 5) (.cells #[.string ⟨#[92]⟩] 9)
  obtain ⟨F, R, hFR, cs⟩ : ∃ (F : World → Nat) (R : World → Obj), Hid (∀ W, ∃ fz, R W = .cells (bytesRow ⟨#[92, 92]⟩ (F W)) 5 fz ∧ (⟨#[92, 92]⟩ : ByteArray).size ≤ F W) ∧ ∀ W : World, (convert 9 51 (.string ⟨#[92, 92]⟩)).run Tryz.prog W = .ok (.slice (some ⟨W.heap.size, 0, none⟩) 2 (F W)) (W.drew.alloc (R W)) :=
    ⟨fun W => grownCap W 2 0 5, _, fun W => ⟨_, rfl, grownCap_ge W 2 0 5⟩, fun W => run_bytes_of_string W 9 51 5 ⟨#[92, 92]⟩ Tryz.underlying9 Tryz.underlying51 Tryz.underlying5⟩
  have B2h : Hid (BSt w v2 gt gr _ [(10, ⟨#[92, 110]⟩), (34, ⟨#[92, 34]⟩)]) := B2
  clear B2
  rw [rounds_succ]; go_wp2
  obtain ⟨fz, h3⟩ := hFR ((((v2.setCell ⟨gt, 2, none⟩ (.string ⟨#[92]⟩)).setCell ⟨gr, 256, none⟩ (.slice (some ⟨gt, 0, none⟩) 3 3)).alloc (.cells #[.int .u8 92] 5)).alloc (.cells #[.string ⟨#[92]⟩] 9))
  have B3 := BSt.more B2h.out 2 92 rfl (by omega) (by omega) (by simp) (.cells #[.int .u8 92] 5) (.cells #[.string ⟨#[92]⟩] 9) _ ⟨#[92, 92]⟩ _ 2 fz (.string ⟨#[92]⟩) rfl rfl h3
  clear r0 r1 cv f1 f2 f3 f4 f5 f6 f7 f8 f9 f10 f11 f12 f13 f14 f15 f16 cs hFR h3 B2h
  generalize World.drew (World.setCell (World.alloc (World.alloc (World.alloc (World.setCell (World.setCell v2 _ _) _ _) _) _) _) _ _) = v3 at B3 ⊢
  rw [rounds_succ]; go_wp2
  go_ret
  exact ⟨_, _, _, rfl, B3⟩
end Go.Proofs.YtnlkfajnaelnnaaGreatDoor
