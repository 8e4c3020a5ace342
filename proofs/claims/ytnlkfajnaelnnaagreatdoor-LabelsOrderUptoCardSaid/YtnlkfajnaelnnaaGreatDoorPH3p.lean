/- LabelsOrder, out of what is read. -/
import Derived.Test.YtnlkfajnaelnnaaGreatDoorL1cp
import Derived.Test.YtnlkfajnaelnnaaGreatDoorM1p
import Derived.Test.YtnlkfajnaelnnaaGreatDoorRows
import Derived.Deep.Slices
import Derived.Below
import Derived.Test.YtnlkfajnaelnnaaGreatDoorGB10p
import Derived.Lib.ValidLaws
import Derived.Lib.Bytealg
import Derived.KernelRfl
import Derived.Lib.LaidU8T
import Derived.Shelf.Unicode.ValidAny
set_option linter.unusedVariables false
set_option linter.unusedSimpArgs false
set_option maxRecDepth 100000
namespace Go.Proofs.YtnlkfajnaelnnaaGreatDoor
open Go.GB
/-! 16 tocsinref04_Right  -/
/-! 20 tocsinref04_Metric  -/
/-! 21 tocsinlaw04_Kept ('vis', 'imm') -/
/-! 3 tocsinlaw04_LabelsRights  -/
/-! 29 labels_Make  -/
/-! 78 tocsinref04_twice  -/
/-! 80 tocsinref04_full  -/
/-! 79 tocsinref04_sorted  -/
/-! 30 tocsinref04_Make  -/
/-! 32 tocsinref04_Get  -/
/-! 28 tocsinlaw04_Spoil_f28 ('own',) -/
/-! 21 tocsinlaw04_Kept_f21  -/
/-! 5 tocsinlaw04_LabelsMakes  -/
/-! 37 labels_With  -/
/-! 112 tocsinref04_has  -/
/-! 65 tocsinref04_Pick  -/
/-! 38 tocsinref04_With  -/
/-! 39 labels_Without  -/
/-! 40 tocsinref04_Keep  -/
/-! 41 labels_Keep  -/
/-! 7 tocsinlaw04_LabelsTurns  -/
end Go.Proofs.YtnlkfajnaelnnaaGreatDoor

set_option linter.unusedVariables false
set_option linter.unusedSimpArgs false
set_option maxRecDepth 100000
namespace Go.Proofs.YtnlkfajnaelnnaaGreatDoor
open Go.GB
/-! 8 tocsinlaw04_LabelsAlgebra  -/
end Go.Proofs.YtnlkfajnaelnnaaGreatDoor

/- From data that are read to what the walks ask: rows. -/
set_option linter.unusedVariables false
namespace Go.GB
open Go Go.RowKit
open Go.Proofs.YtnlkfajnaelnnaaGreatDoor.Rows (uptoBulk uptoBulkAll)

def immOf (W : World) : Imm := ⟨fun b => W.heap[b]?, W.os, W.tape, W.output, 0⟩
theorem holds_immOf (W : World) : Holds (immOf W) [] W := ⟨fun _ _ h => h, by simp, by simp, by simp, rfl, rfl, rfl, Nat.zero_le _⟩
theorem below_of {I' : Imm} {L' : Own} {W W' : World} (h : Holds I' L' W') (hI : immOf W ≤ I') : Below W.heap.size W W' := by
  refine ⟨by rw [h.os, hI.os]; rfl, by rw [h.tape, hI.tape]; rfl, by rw [h.out, hI.out]; rfl, ?_, fun k hk => ?_⟩
  · rcases Nat.eq_zero_or_pos W.heap.size with h0 | h0
    · omega
    · have : W.heap[W.heap.size - 1]? = some (W.heap[W.heap.size - 1]'(by omega)) := Array.getElem?_eq_getElem _
      have := lt_of_heap (h.imm _ _ (hI.h _ _ this))
      omega
  · have : W.heap[k]? = some (W.heap[k]) := Array.getElem?_eq_getElem hk
    rw [this]; exact h.imm _ _ (hI.h _ _ this)
theorem imm_cell {W : World} {a : Addr} {v : Value} (h : W.cell? a = some v) : (immOf W).cell a = some v := h
theorem run_of_cells {W : World} {a : Addr} {n : Nat} {cs : List Value} (h : W.cells? 0 a n = some cs) : RunAt (immOf W) a cs := fun j v hj => by
  unfold World.cells? at h
  rw [if_pos (Nat.zero_le _)] at h
  have hl := mapM_some_length h
  have hj' : j < n := by have := (List.getElem?_eq_some_iff.1 hj).1; simpa [hl] using this
  have := mapM_some_get h j j (by simp [hj'])
  exact imm_cell (this.trans hj)

def Reads {α : Type} (P : Program) (T : TypeId) (d : Kd α) (w : α → Nat → Prop) : Prop := ∀ {H : Type} {enc : TypeId × Value → H} {W : World} {spare : Nat → Bool} {held : Bool} {fuel : Nat} {cs : List Value} {x : DataW H × List MemPlace},
  DataW.trod enc P W 0 spare held fuel T cs = some x → uptoBulk x.1 ≤ 1048576 → ∃ y, d.R (immOf W) y cs ∧ w y (uptoBulk x.1)
theorem reads_str {P : Program} {T : TypeId} (h : P.underlying T = some .string) : Reads P T Kd.str wStr := fun ht _ => by
  obtain ⟨n, rfl, rfl, _⟩ := DataW.trod_string h ht
  exact ⟨n, rfl, by simp [uptoBulk, wStr]⟩
theorem bulk_pos {H : Type} (d : DataW H) : 1 ≤ uptoBulk d := by
  cases d with
  | lit l => cases l <;> simp [uptoBulk]
  | _ => simp [uptoBulk]
theorem bulkAll_ge {H : Type} : ∀ (l : List (DataW H)), l.length ≤ uptoBulkAll l
  | [] => by simp
  | d :: r => by have := bulk_pos d; have := bulkAll_ge r; simp only [uptoBulkAll, List.length_cons]; omega
theorem bulkAll_mem {H : Type} {d : DataW H} : ∀ {l : List (DataW H)}, d ∈ l → uptoBulk d ≤ uptoBulkAll l
  | [], h => by cases h
  | e :: r, h => by
    simp only [uptoBulkAll]
    rcases List.mem_cons.1 h with rfl | h
    · omega
    · have := bulkAll_mem h; omega
theorem choose_list {α : Type} {p : Nat → α → Prop} : ∀ (n : Nat), (∀ i, i < n → ∃ y, p i y) → ∃ xs : List α, xs.length = n ∧ ∀ i x, xs[i]? = some x → p i x
  | 0, _ => ⟨[], rfl, fun i x h => by simp at h⟩
  | m + 1, key => by
    obtain ⟨xs, hxl, hx⟩ := choose_list m (fun i hi => key i (by omega))
    obtain ⟨y, hy⟩ := key m (by omega)
    refine ⟨xs ++ [y], by simp [hxl], fun i x h => ?_⟩
    rcases Nat.lt_or_ge i m with hi | hi
    · rw [List.getElem?_append_left (by omega)] at h; exact hx i x h
    · rw [List.getElem?_append_right (by omega), hxl] at h
      have hi0 : i - m = 0 := by have := (List.getElem?_eq_some_iff.1 h).1; simpa using this
      rw [hi0] at h
      simp only [List.getElem?_cons_zero, Option.some.injEq] at h
      subst h
      rw [show i = m from by omega]
      exact hy
theorem wSl_of {α H : Type} {w : α → Nat → Prop} : ∀ (xs : List α) (es : List (DataW H)), xs.length = es.length → (∀ (i : Nat) (x : α) (e : DataW H), xs[i]? = some x → es[i]? = some e → w x (uptoBulk e)) → wSl w xs (uptoBulkAll es)
  | [], _, _, _ => trivial
  | x :: r, [], h, _ => by simp at h
  | x :: r, e :: es, h, hw => ⟨uptoBulk e, uptoBulkAll es, hw 0 x e rfl rfl, wSl_of r es (by simpa using h) (fun i x' e' h1 h2 => hw (i + 1) x' e' (by simpa using h1) (by simpa using h2)), by simp [uptoBulkAll], bulk_pos e⟩
theorem reads_slice {α : Type} {P : Program} {T e : TypeId} {d : Kd α} {w : α → Nat → Prop} (hu : P.underlying T = some (.slice e)) (hn : P.cellsOf e = d.n) (hr : Reads P e d w) : Reads P T (Kd.sl d) (wSl w) := by
  intro H enc W spare held fuel cs x ht hb
  rcases DataW.trod_slice hu ht with ⟨rfl, rfl⟩ | ⟨a, len, cap, elems, rest, n, rfl, rfl, rfl, _, hlc, hcm, hel, hat, _, _⟩
  · exact ⟨[], ⟨none, 0, rfl, RepS.nil _ _⟩, trivial⟩
  · simp only [uptoBulk] at hb
    have hlen := bulkAll_ge (elems.map (·.1))
    rw [List.length_map, hel] at hlen
    have key : ∀ i, i < len → ∃ y, (∃ cs', d.R (immOf W) y cs' ∧ RunAt (immOf W) (a.add (i * d.n)) cs') ∧ ∀ e, (elems.map (·.1))[i]? = some e → w y (uptoBulk e) := fun i hi => by
      have h1 := hat i hi
      have hie : i < elems.length := by omega
      rw [List.getElem?_eq_getElem hie] at h1
      simp only [Option.bind_eq_some_iff] at h1
      obtain ⟨cs', h2, h3⟩ := h1
      obtain ⟨y, hy, hw⟩ := hr h3 (by
        have := bulkAll_mem (l := elems.map (·.1)) (List.mem_map_of_mem (List.getElem_mem hie))
        omega)
      refine ⟨y, ⟨cs', hy, ?_⟩, fun e he => ?_⟩
      · rw [← hn]
        exact run_of_cells h2
      · rw [List.getElem?_map, List.getElem?_eq_getElem hie] at he
        cases he; exact hw
    have hex := choose_list (p := fun i y => (∃ cs', d.R (immOf W) y cs' ∧ RunAt (immOf W) (a.add (i * d.n)) cs') ∧ ∀ e, (elems.map (·.1))[i]? = some e → w y (uptoBulk e)) len key
    obtain ⟨xs, hxl, hx⟩ := hex
    refine ⟨xs, ⟨some a, cap, by rw [hxl], by omega, by unfold maxLen'; omega, fun i x h => ?_⟩, ?_⟩
    · obtain ⟨⟨cs', h1, h2⟩, _⟩ := hx i x h
      exact ⟨a, cs', rfl, h1, h2⟩
    · exact (wSl_of xs (elems.map (·.1)) (by simp [hxl, hel]) (fun i x e h1 h2 => (hx i x h1).2 e h2)).le (by simp only [uptoBulk]; omega)
theorem pairR {α β : Type} {a : Kd α} {b : Kd β} {I : Imm} {x : α} {y : β} {cs : List Value} {o n m : Nat} (h0 : a.R I x ((cs.drop o).take n)) (h1 : b.R I y (cs.drop m)) (hm : m = o + n) : (Kd.pair a b).R I (x, y) (cs.drop o) := by
  subst hm
  exact ⟨(cs.drop o).take n, (cs.drop o).drop n, (List.take_append_drop _ _).symm, h0, by rw [List.drop_drop]; exact h1⟩
theorem lastR {α : Type} {a : Kd α} {I : Imm} {x : α} {cs : List Value} {o n : Nat} (h : a.R I x ((cs.drop o).take n)) (hl : cs.length = o + n) : a.R I x (cs.drop o) := by
  rwa [List.take_of_length_le (by rw [List.length_drop]; omega)] at h
def fieldD (P : Program) (T : TypeId) (i : Nat) : Field := (P.fieldsOf T).getD i default
/-- A field of a struct that is read. -/
theorem field_read {α : Type} {H : Type} {enc : TypeId × Value → H} {P : Program} {W : World} {spare : Nat → Bool} {held : Bool} {m : Nat} {T t : TypeId} {d : Kd α} {w : α → Nat → Prop} {cs : List Value} {xs : List (DataW H × List MemPlace)} {x : DataW H × List MemPlace} {i o n : Nat}
    (hf : ∀ (i : Nat) (f : Field), (P.fieldsOf T)[i]? = some f → DataW.trod enc P W 0 spare held m f.type ((cs.drop f.offset).take (P.cellsOf f.type)) = xs[i]?)
    (hx : xs[i]? = some x) (h1 : (P.fieldsOf T)[i]? = some (fieldD P T i)) (h2 : (fieldD P T i).type = t) (h3 : (fieldD P T i).offset = o) (h4 : P.cellsOf t = n) (hr : Reads P t d w) (hb : uptoBulk x.1 ≤ 1048576) : ∃ y, d.R (immOf W) y ((cs.drop o).take n) ∧ w y (uptoBulk x.1) := by
  have := hf i _ h1
  rw [hx, h2, h3, h4] at this
  exact hr this hb
theorem calls_of {P : Program} {f : FuncId} {args : Array Value} {W : World} {b : Value} (h : CallsTo P f args (immOf W) [] (fun v I' L' => v = b ∧ [] = L')) : Calls P f args W fun e W' => e = .returned b ∧ Below W.heap.size W W' :=
  (h W (holds_immOf W)).mono fun e W' ⟨v, I', L', he, hI, hh, hv, _⟩ => ⟨by rw [he, hv], below_of hh hI⟩
end Go.GB

/- Functions that can be run out: twins with a bound on rounds. -/
set_option linter.unusedVariables false
namespace Go.GB
def loopF {σ ρ : Type} : Nat → (σ → Option (σ ⊕ ρ)) → σ → Option ρ
  | 0, _, _ => none
  | n + 1, body, s => match body s with
    | none => none
    | some (.inr r) => some r
    | some (.inl s') => loopF n body s'
def OLe {α : Type} (x y : Option α) : Prop := ∀ r, x = some r → y = some r
theorem OLe.refl {α : Type} (x : Option α) : OLe x x := fun _ h => h
theorem OLe.bind {α β : Type} {x y : Option α} {f g : α → Option β} (h : OLe x y) (hf : ∀ a, OLe (f a) (g a)) : OLe (Option.bind x f) (Option.bind y g) := fun r hr => by
  obtain ⟨a, ha, hb⟩ := bind_some hr
  rw [h a ha]; exact hf a r hb
theorem OLe.cond {α : Type} {b : Bool} {x y x' y' : Option α} (h : OLe x x') (h' : OLe y y') : OLe (bif b then x else y) (bif b then x' else y') := by
  cases b
  · exact h'
  · exact h
theorem loopF_R {σ ρ : Type} {body body' : σ → Option (σ ⊕ ρ)} (h : ∀ s, OLe (body s) (body' s)) : ∀ (n : Nat) (s : σ) (r : ρ), loopF n body s = some r → LoopR body' s r
  | 0, _, _, hr => by cases hr
  | n + 1, s, r, hr => by
    unfold loopF at hr
    cases hb : body s with
    | none => rw [hb] at hr; cases hr
    | some o =>
      rw [hb] at hr
      cases o with
      | inl s' => exact .step (h s _ hb) (loopF_R h n s' r hr)
      | inr r' => cases hr; exact .done (h s _ hb)
theorem OLe.loop {σ ρ : Type} {body body' : σ → Option (σ ⊕ ρ)} {n : Nat} {s : σ} (h : ∀ s, OLe (body s) (body' s)) : OLe (loopF n body s) (loopO body' s) := fun r hr => loopO_of (loopF_R h n s r hr)

/-! ### Loops that go up -/
end Go.GB

/- What plain functions come to: a calculus for 'it answers, and its answer is ..'. -/
set_option linter.unusedVariables false
namespace Go.GB
theorem wrap_up {i : Nat} (h : i < 4294967296) : IntKind.wrap .i64 ((i : Int) + 1) = ((i + 1 : Nat) : Int) := by rw [wrap64 (by omega) (by omega)]; omega
theorem ix_nat {α : Type} (xs : List α) (i : Nat) : ix xs (i : Int) = xs[i]? := by simp [ix]
theorem toList_inj {a b : ByteArray} : (a.toList == b.toList) = true ↔ a = b := by
  rw [ByteArray.toList_eq, ByteArray.toList_eq]
  obtain ⟨⟨x⟩⟩ := a
  obtain ⟨⟨y⟩⟩ := b
  simp
end Go.GB

/- Plain laws, base: loops that are alike; searches; words of bits. -/
set_option linter.unusedVariables false
namespace Go.GB
/-- One round. -/
theorem loopO_step {σ ρ : Type} {b : σ → Option (σ ⊕ ρ)} {s s' : σ} (h : b s = some (.inl s')) : loopO b s = loopO b s' := by rw [loopO_eq, h]; rfl
theorem loopO_done {σ ρ : Type} {b : σ → Option (σ ⊕ ρ)} {s : σ} {r : ρ} (h : b s = some (.inr r)) : loopO b s = some r := by rw [loopO_eq, h]; rfl
theorem bx_at {s : ByteArray} {i : Nat} (h : i < s.size) : bx s (i : Int) = some (((s.data.toList.getD i 0).toNat : Nat) : Int) := by
  unfold bx
  rw [if_pos ⟨by omega, by omega⟩]
  unfold byteAt
  rw [Int.toNat_natCast]
  simp [List.getD_eq_getElem?_getD]
end Go.GB

/- Plain laws: the program's hash is the document's. -/
set_option linter.unusedVariables false
set_option maxRecDepth 100000
namespace Go.Proofs.YtnlkfajnaelnnaaGreatDoor
open Go.GB Go.Lib
def hs1 (h : Int) (c : UInt8) : Int := IntKind.wrap .u64 (bitXor .u64 h (IntKind.wrap .u64 ((c.toNat : Nat) : Int)) * 1099511628211)
theorem l16_eq (s : ByteArray) (hs : s.size < 4294967296) : ∀ (d i : Nat) (h : Int), s.size - i = d → i ≤ s.size → loopO (labels_Hash_1_l16 s) (h, (i : Int)) = some ((s.data.toList.drop i).foldl hs1 h) := by
  have hsz : s.data.toList.length = s.size := Array.length_toList
  intro d
  induction d with
  | zero =>
    intro i h hd hi
    rw [loopO_done (r := h) (by
      unfold labels_Hash_1_l16
      rw [show decide ((i : Int) < (s.size : Int)) = false from decide_eq_false (by omega)]; rfl)]
    rw [List.drop_of_length_le (by omega)]; rfl
  | succ d ih =>
    intro i h hd hi
    have hlt : i < s.size := by omega
    rw [List.drop_eq_getElem_cons (by omega : i < s.data.toList.length), List.foldl_cons]
    rw [loopO_step (s' := (hs1 h s.data.toList[i], ((i + 1 : Nat) : Int))) (by
      unfold labels_Hash_1_l16
      rw [show decide ((i : Int) < (s.size : Int)) = true from decide_eq_true (by omega)]
      simp only [cond_true, bx_at hlt, Option.bind_some, wrap_up (show i < 4294967296 by omega)]
      rw [List.getD_eq_getElem?_getD, List.getElem?_eq_getElem (by omega : i < s.data.toList.length)]; rfl)]
    exact ih (i + 1) _ (by omega) (by omega)
theorem l49_eq : tocsinref04_Hash_l49 = labels_Hash_1_l16 := rfl
theorem hash1_eq (s : ByteArray) (hs : s.size < 4294967296) (h : Int) : labels_Hash_1 s h = some ((s.data.toList ++ [255]).foldl hs1 h) := by
  unfold labels_Hash_1
  have := l16_eq s hs s.size 0 h (by omega) (by omega)
  rw [show ((0 : Nat) : Int) = 0 from rfl] at this
  rw [this, List.drop_zero, List.foldl_append]; rfl
def hX (h : Int) (x : S49) : Int := (x.f0.data.toList ++ [255] ++ x.f1.data.toList ++ [255]).foldl hs1 h
theorem l17_eq (a : List S49) (ha : a.length < 4294967296) (hb : ∀ x ∈ a, x.f0.size + x.f1.size < 2147483648) : ∀ (d i : Nat) (h : Int), a.length - i = d → i ≤ a.length →
    loopO (labels_Hash_l17 a) (h, (i : Int)) = some ((a.drop i).foldl hX h) ∧ loopO (tocsinref04_Hash_l16 a) (h, (i : Int)) = some ((a.drop i).foldl hX h) := by
  intro d
  induction d with
  | zero =>
    intro i h hd hi
    rw [loopO_done (b := labels_Hash_l17 a) (r := h) (by
      unfold labels_Hash_l17
      rw [show decide ((i : Int) < (a.length : Int)) = false from decide_eq_false (by omega)]; rfl),
      loopO_done (b := tocsinref04_Hash_l16 a) (r := h) (by
      unfold tocsinref04_Hash_l16
      rw [show decide ((i : Int) < (a.length : Int)) = false from decide_eq_false (by omega)]; rfl)]
    rw [List.drop_of_length_le (by omega)]; exact ⟨rfl, rfl⟩
  | succ d ih =>
    intro i h hd hi
    have hlt : i < a.length := by omega
    have hm := hb a[i] (List.getElem_mem hlt)
    have hx : ix a (i : Int) = some a[i] := by rw [ix_nat, List.getElem?_eq_getElem hlt]
    rw [List.drop_eq_getElem_cons hlt, List.foldl_cons]
    rw [loopO_step (b := labels_Hash_l17 a) (s' := (hX h a[i], ((i + 1 : Nat) : Int))) (by
      unfold labels_Hash_l17
      rw [show decide ((i : Int) < (a.length : Int)) = true from decide_eq_true (by omega)]
      simp only [cond_true, hx, Option.bind_some, hash1_eq _ (show a[i].f0.size < 4294967296 by omega), hash1_eq _ (show a[i].f1.size < 4294967296 by omega), wrap_up (show i < 4294967296 by omega)]
      simp only [hX, List.foldl_append]),
      loopO_step (b := tocsinref04_Hash_l16 a) (s' := (hX h a[i], ((i + 1 : Nat) : Int))) (by
      unfold tocsinref04_Hash_l16
      rw [show decide ((i : Int) < (a.length : Int)) = true from decide_eq_true (by omega)]
      have z1 : (⟨#[255]⟩ : ByteArray).size = 1 := rfl
      simp only [cond_true, hx, Option.bind_some]
      rw [sadd, if_pos (by rw [z1]; omega), Option.bind_some, sadd, if_pos (by simp only [ByteArray.size_append, z1]; omega), Option.bind_some, sadd, if_pos (by simp only [ByteArray.size_append, z1]; omega), Option.bind_some, l49_eq]
      have := l16_eq (a[i].f0 ++ ⟨#[255]⟩ ++ a[i].f1 ++ ⟨#[255]⟩) (by simp only [ByteArray.size_append, z1]; omega) _ 0 h rfl (by omega)
      rw [show ((0 : Nat) : Int) = 0 from rfl] at this
      rw [this, List.drop_zero, Option.bind_some, wrap_up (show i < 4294967296 by omega), hX]
      simp; try rfl)]
    exact ih (i + 1) _ (by omega) (by omega)
theorem hash_eq (a : List S49) (ha : a.length < 4294967296) (hb : ∀ x ∈ a, x.f0.size + x.f1.size < 2147483648) : labels_Hash a = tocsinref04_Hash a ∧ ∃ h, labels_Hash a = some h := by
  have h := l17_eq a ha hb a.length 0 14695981039346656037 (by omega) (by omega)
  rw [show ((0 : Nat) : Int) = 0 from rfl] at h
  unfold labels_Hash tocsinref04_Hash
  rw [h.1, h.2]; exact ⟨rfl, _, rfl⟩
end Go.Proofs.YtnlkfajnaelnnaaGreatDoor

/- Plain laws: the document's Utf8 is the library's. -/
set_option linter.unusedVariables false
set_option maxRecDepth 100000
namespace Go.Proofs.YtnlkfajnaelnnaaGreatDoor
open Go.GB Go.Lib
end Go.Proofs.YtnlkfajnaelnnaaGreatDoor

/- Plain laws, base: the order of texts. -/
set_option linter.unusedVariables false
namespace Go.GB
open Go.Lib
theorem cb_self : ∀ a : List UInt8, compareBytes a a = 0
  | [] => rfl
  | a :: xs => by unfold compareBytes; rw [if_neg (UInt8.lt_irrefl a), if_neg (UInt8.lt_irrefl a)]; exact cb_self xs
theorem cb_swap : ∀ a b : List UInt8, compareBytes b a = - compareBytes a b
  | [], [] => rfl
  | [], _ :: _ => rfl
  | _ :: _, [] => rfl
  | a :: xs, b :: ys => by
    unfold compareBytes
    by_cases h1 : a < b
    · have h2 : ¬ b < a := fun h => UInt8.lt_irrefl a (UInt8.lt_trans h1 h)
      rw [if_pos h1, if_neg h2, if_pos h1]; rfl
    · by_cases h2 : b < a
      · rw [if_pos h2, if_neg h1, if_pos h2]
      · rw [if_neg h2, if_neg h1, if_neg h1, if_neg h2]; exact cb_swap xs ys
theorem u8_eq {a b : UInt8} (h1 : ¬ a < b) (h2 : ¬ b < a) : a = b := UInt8.le_antisymm (UInt8.not_lt.1 h2) (UInt8.not_lt.1 h1)
theorem cb_zero : ∀ a b : List UInt8, compareBytes a b = 0 → a = b
  | [], [], _ => rfl
  | [], _ :: _, h => by simp [compareBytes] at h
  | _ :: _, [], h => by simp [compareBytes] at h
  | a :: xs, b :: ys, h => by
    unfold compareBytes at h
    by_cases h1 : a < b
    · rw [if_pos h1] at h; cases h
    · by_cases h2 : b < a
      · rw [if_neg h1, if_pos h2] at h; cases h
      · rw [if_neg h1, if_neg h2] at h
        rw [cb_zero xs ys h, u8_eq h1 h2]
theorem cb_range : ∀ a b : List UInt8, compareBytes a b = -1 ∨ compareBytes a b = 0 ∨ compareBytes a b = 1
  | [], [] => by simp [compareBytes]
  | [], _ :: _ => by simp [compareBytes]
  | _ :: _, [] => by simp [compareBytes]
  | a :: xs, b :: ys => by
    unfold compareBytes
    split
    · simp
    · split
      · simp
      · exact cb_range xs ys
theorem cb_less : ∀ a b : List UInt8, Op.bytesLess a b = decide (compareBytes a b = -1)
  | [], [] => by simp [compareBytes, Op.bytesLess]
  | [], _ :: _ => by simp [compareBytes, Op.bytesLess]
  | _ :: _, [] => by simp [compareBytes, Op.bytesLess]
  | a :: xs, b :: ys => by
    unfold compareBytes Op.bytesLess
    by_cases h1 : a < b
    · simp [h1]
    · by_cases h2 : b < a
      · have h3 : (a == b) = false := by
          rw [beq_eq_false_iff_ne]; rintro rfl; exact h1 h2
        simp [h1, h2, h3]
      · have h3 := u8_eq h1 h2
        subst h3
        simp [h1, cb_less xs ys]
theorem cb_trans : ∀ a b c : List UInt8, compareBytes a b = -1 → compareBytes b c = -1 → compareBytes a c = -1
  | [], [], _, h, _ => by simp [compareBytes] at h
  | [], _ :: _, [], _, h => by simp [compareBytes] at h
  | [], _ :: _, _ :: _, _, _ => by simp [compareBytes]
  | _ :: _, [], _, h, _ => by simp [compareBytes] at h
  | _ :: _, _ :: _, [], _, h => by simp [compareBytes] at h
  | a :: xs, b :: ys, c :: zs, h, k => by
    unfold compareBytes at h k ⊢
    by_cases h1 : a < b
    · by_cases h3 : b < c
      · rw [if_pos (UInt8.lt_trans h1 h3)]
      · by_cases h4 : c < b
        · rw [if_neg h3, if_pos h4] at k; cases k
        · rw [← u8_eq h3 h4, if_pos h1]
    · by_cases h2 : b < a
      · rw [if_neg h1, if_pos h2] at h; cases h
      · have e := u8_eq h1 h2
        subst e
        rw [if_neg h1, if_neg h1] at h
        by_cases h3 : a < c
        · rw [if_pos h3]
        · by_cases h4 : c < a
          · rw [if_neg h3, if_pos h4] at k; cases k
          · rw [if_neg h3, if_neg h4] at k
            rw [if_neg h3, if_neg h4]
            exact cb_trans xs ys zs h k
def cmpS (a b : ByteArray) : Int := compareBytes a.data.toList b.data.toList
theorem cmpS_self (a : ByteArray) : cmpS a a = 0 := cb_self _
theorem cmpS_swap (a b : ByteArray) : cmpS b a = - cmpS a b := cb_swap _ _
theorem ba_eq {a b : ByteArray} (h : a.data.toList = b.data.toList) : a = b := by
  obtain ⟨⟨x⟩⟩ := a
  obtain ⟨⟨y⟩⟩ := b
  simpa using h
theorem cmpS_zero {a b : ByteArray} (h : cmpS a b = 0) : a = b := ba_eq (cb_zero _ _ h)
theorem cmpS_range (a b : ByteArray) : cmpS a b = -1 ∨ cmpS a b = 0 ∨ cmpS a b = 1 := cb_range _ _
theorem cmpS_trans {a b c : ByteArray} (h : cmpS a b = -1) (k : cmpS b c = -1) : cmpS a c = -1 := cb_trans _ _ _ h k
theorem toList_eq (a : ByteArray) : a.toList = a.data.toList := ByteArray.toList_eq a
theorem less_eq (a b : ByteArray) : Op.bytesLess a.toList b.toList = decide (cmpS a b = -1) := by rw [toList_eq, toList_eq]; exact cb_less _ _
theorem beq_eq (a b : ByteArray) : (a.toList == b.toList) = decide (cmpS a b = 0) := by
  rw [Bool.eq_iff_iff, toList_inj, decide_eq_true_iff]
  exact ⟨fun h => by rw [h]; exact cmpS_self _, cmpS_zero⟩
end Go.GB

/- Plain laws: names, values, label sets: the program's are the document's. -/
set_option linter.unusedVariables false
set_option maxRecDepth 100000
namespace Go.Proofs.YtnlkfajnaelnnaaGreatDoor
open Go.GB Go.Lib
end Go.Proofs.YtnlkfajnaelnnaaGreatDoor

/- Plain laws: label sets compared. -/
set_option linter.unusedVariables false
set_option maxRecDepth 100000
namespace Go.Proofs.YtnlkfajnaelnnaaGreatDoor
open Go.GB Go.Lib
def cmpX (x y : S49) : Int := if cmpS x.f0 y.f0 ≠ 0 then cmpS x.f0 y.f0 else cmpS x.f1 y.f1
def cmpL : List S49 → List S49 → Int
  | [], [] => 0
  | [], _ :: _ => -1
  | _ :: _, [] => 1
  | x :: xs, y :: ys => if cmpX x y ≠ 0 then cmpX x y else cmpL xs ys
theorem strCmp_eq (a b : ByteArray) : strings_Compare a b = cmpS a b := rfl
theorem side_eq (a b : ByteArray) : tocsinref04_side a b = cmpS a b := by
  unfold tocsinref04_side
  rw [less_eq, beq_eq]
  rcases cmpS_range a b with h | h | h <;> rw [h] <;> rfl
theorem cmp1_eq (x y : S49) : labels_Compare_1 x y = cmpX x y := by
  unfold labels_Compare_1 cmpX
  rw [strCmp_eq, strCmp_eq]
  by_cases h : cmpS x.f0 y.f0 = 0
  · rw [if_neg (by simpa using h), show (cmpS x.f0 y.f0 != 0) = false by simp [h]]; rfl
  · rw [if_pos h, show (cmpS x.f0 y.f0 != 0) = true by simpa using h]; rfl
theorem cmpX_range (x y : S49) : cmpX x y = -1 ∨ cmpX x y = 0 ∨ cmpX x y = 1 := by unfold cmpX; split <;> exact cmpS_range _ _
theorem cmpX_self (x : S49) : cmpX x x = 0 := by unfold cmpX; rw [cmpS_self, cmpS_self]; rfl
theorem cmpX_swap (x y : S49) : cmpX y x = - cmpX x y := by
  unfold cmpX
  rw [cmpS_swap x.f0 y.f0, cmpS_swap x.f1 y.f1]
  by_cases h : cmpS x.f0 y.f0 = 0
  · rw [if_neg (by simp [h]), if_neg (by simp [h])]
  · rw [if_pos (by simp [h]), if_pos h]
theorem cmpX_zero {x y : S49} (h : cmpX x y = 0) : x = y := by
  unfold cmpX at h
  obtain ⟨x0, x1⟩ := x
  obtain ⟨y0, y1⟩ := y
  by_cases h1 : cmpS x0 y0 = 0
  · rw [if_neg (by simpa using h1)] at h
    have e1 : x0 = y0 := cmpS_zero h1
    have e2 : x1 = y1 := cmpS_zero h
    rw [e1, e2]
  · rw [if_pos h1] at h; exact absurd h h1
theorem cmpX_trans {x y z : S49} (h : cmpX x y = -1) (k : cmpX y z = -1) : cmpX x z = -1 := by
  unfold cmpX at h k ⊢
  by_cases h1 : cmpS x.f0 y.f0 = 0
  · rw [if_neg (by simpa using h1)] at h
    have e := cmpS_zero h1
    rw [e]
    by_cases h2 : cmpS y.f0 z.f0 = 0
    · rw [if_neg (by simpa using h2)] at k ⊢
      exact cmpS_trans h k
    · rw [if_pos h2] at k ⊢; exact k
  · rw [if_pos h1] at h
    by_cases h2 : cmpS y.f0 z.f0 = 0
    · have e := cmpS_zero h2
      rw [← e, if_pos h1]; exact h
    · rw [if_pos h2] at k
      have := cmpS_trans h k
      rw [if_pos (by omega)]; exact this
theorem cmpL_range : ∀ a b : List S49, cmpL a b = -1 ∨ cmpL a b = 0 ∨ cmpL a b = 1
  | [], [] => by simp [cmpL]
  | [], _ :: _ => by simp [cmpL]
  | _ :: _, [] => by simp [cmpL]
  | x :: xs, y :: ys => by
    unfold cmpL
    split
    · exact cmpX_range _ _
    · exact cmpL_range xs ys
theorem cmpL_self : ∀ a : List S49, cmpL a a = 0
  | [] => rfl
  | x :: xs => by unfold cmpL; rw [if_neg (by simp [cmpX_self])]; exact cmpL_self xs
theorem cmpL_swap : ∀ a b : List S49, cmpL b a = - cmpL a b
  | [], [] => rfl
  | [], _ :: _ => rfl
  | _ :: _, [] => rfl
  | x :: xs, y :: ys => by
    unfold cmpL
    rw [cmpX_swap x y]
    by_cases h : cmpX x y = 0
    · rw [if_neg (by simp [h]), if_neg (by simp [h])]; exact cmpL_swap xs ys
    · rw [if_pos (by simp [h]), if_pos h]
theorem cmpL_zero : ∀ {a b : List S49}, cmpL a b = 0 → a = b
  | [], [], _ => rfl
  | [], _ :: _, h => by simp [cmpL] at h
  | _ :: _, [], h => by simp [cmpL] at h
  | x :: xs, y :: ys, h => by
    unfold cmpL at h
    by_cases h1 : cmpX x y = 0
    · rw [if_neg (by simpa using h1)] at h
      rw [cmpX_zero h1, cmpL_zero h]
    · rw [if_pos h1] at h; exact absurd h h1
theorem cmpL_trans : ∀ {a b c : List S49}, cmpL a b = -1 → cmpL b c = -1 → cmpL a c = -1
  | [], [], _, h, _ => by simp [cmpL] at h
  | [], _ :: _, [], _, h => by simp [cmpL] at h
  | [], _ :: _, _ :: _, _, _ => rfl
  | _ :: _, [], _, h, _ => by simp [cmpL] at h
  | _ :: _, _ :: _, [], _, h => by simp [cmpL] at h
  | x :: xs, y :: ys, z :: zs, h, k => by
    unfold cmpL at h k ⊢
    by_cases h1 : cmpX x y = 0
    · have e := cmpX_zero h1
      rw [if_neg (by simpa using h1)] at h
      rw [e]
      by_cases h2 : cmpX y z = 0
      · rw [if_neg (by simpa using h2)] at k ⊢
        exact cmpL_trans h k
      · rw [if_pos h2] at k ⊢; exact k
    · rw [if_pos h1] at h
      by_cases h2 : cmpX y z = 0
      · rw [← cmpX_zero h2, if_pos h1]; exact h
      · rw [if_pos h2] at k
        have := cmpX_trans h k
        rw [if_pos (by omega)]; exact this
/-- What a loop over both finds. -/
theorem compare_eq (a b : List S49) (ha : a.length ≤ 2147483648) : labels_Compare a b = some (cmpL a b) := by
  unfold labels_Compare slices_CompareFunc
  have key : ∀ d i : Nat, a.length - i = d → i ≤ a.length → i ≤ b.length →
      (Option.bind (loopO (slices_CompareFunc_l17 a b (fun x0 x1 => some (labels_Compare_1 x0 x1))) (i : Int)) fun (r5 : (Unit) ⊕ (Int)) =>
        match r5 with
        | Sum.inl r13 => bif (decide ((a.length : Int) < (b.length : Int))) then (some (-1)) else (some 0)
        | Sum.inr v43 => some v43) = some (cmpL (a.drop i) (b.drop i)) := by
    intro d
    induction d with
    | zero =>
      intro i hd hia hib
      have hi : i = a.length := by omega
      subst hi
      rw [loopO_done (r := .inl ()) (by
        unfold slices_CompareFunc_l17
        rw [show decide ((a.length : Int) < (a.length : Int)) = false from decide_eq_false (by omega)]; rfl)]
      rw [List.drop_length]
      by_cases hlt : a.length < b.length
      · rw [List.drop_eq_getElem_cons hlt]
        simp [hlt, cmpL]
      · rw [List.drop_eq_nil_of_le (by omega)]
        simp [hlt, cmpL]
    | succ d ih =>
      intro i hd hia hib
      have hlt : i < a.length := by omega
      have hx : ix a (i : Int) = some a[i] := by rw [ix_nat, List.getElem?_eq_getElem hlt]
      rw [List.drop_eq_getElem_cons hlt]
      by_cases hb : i < b.length
      · have hy : ix b (i : Int) = some b[i] := by rw [ix_nat, List.getElem?_eq_getElem hb]
        rw [List.drop_eq_getElem_cons hb]
        unfold cmpL
        have hbody : slices_CompareFunc_l17 a b (fun x0 x1 => some (labels_Compare_1 x0 x1)) (i : Int) = some (if cmpX a[i] b[i] ≠ 0 then .inr (.inr (cmpX a[i] b[i])) else .inl ((i + 1 : Nat) : Int)) := by
          unfold slices_CompareFunc_l17
          rw [show decide ((i : Int) < (a.length : Int)) = true from decide_eq_true (by omega), show decide ((i : Int) ≥ (b.length : Int)) = false from decide_eq_false (by omega)]
          simp only [cond_true, hx, hy, Option.bind_some, cond_false, cmp1_eq, wrap_up (show i < 4294967296 by omega)]
          by_cases h : cmpX a[i] b[i] = 0
          · simp [h]
          · rw [if_pos h, show (cmpX a[i] b[i] != 0) = true by simpa using h]; rfl
        by_cases h : cmpX a[i] b[i] = 0
        · rw [if_neg (by simpa using h)] at hbody ⊢
          rw [loopO_step hbody]
          exact ih (i + 1) (by omega) (by omega) (by omega)
        · rw [if_pos h] at hbody ⊢
          rw [loopO_done hbody]; rfl
      · rw [List.drop_eq_nil_of_le (show b.length ≤ i by omega)]
        have hbody : slices_CompareFunc_l17 a b (fun x0 x1 => some (labels_Compare_1 x0 x1)) (i : Int) = some (.inr (.inr 1)) := by
          unfold slices_CompareFunc_l17
          rw [show decide ((i : Int) < (a.length : Int)) = true from decide_eq_true (by omega), show decide ((i : Int) ≥ (b.length : Int)) = true from decide_eq_true (by omega)]
          simp only [cond_true, hx, Option.bind_some]
        rw [loopO_done hbody]; rfl
  have := key a.length 0 (by omega) (by omega) (by omega)
  rw [show ((0 : Nat) : Int) = 0 from rfl] at this
  exact (congrArg (fun X => Option.bind X (fun (y1 : Int) => some y1)) this).trans rfl
theorem refCompare_eq (a b : List S49) (ha : a.length ≤ 2147483648) : tocsinref04_Compare a b = some (cmpL a b) := by
  unfold tocsinref04_Compare
  have key : ∀ d i : Nat, a.length - i = d → i ≤ a.length → i ≤ b.length →
      (Option.bind (loopO (tocsinref04_Compare_l17 a b) (i : Int)) fun (r5 : (Unit) ⊕ (Int)) =>
        match r5 with
        | Sum.inl r13 => bif (decide ((a.length : Int) < (b.length : Int))) then (some (-1)) else (bif (decide ((a.length : Int) > (b.length : Int))) then (some 1) else (some 0))
        | Sum.inr v62 => some v62) = some (cmpL (a.drop i) (b.drop i)) := by
    intro d
    induction d with
    | zero =>
      intro i hd hia hib
      have hi : i = a.length := by omega
      subst hi
      rw [loopO_done (r := .inl ()) (by
        unfold tocsinref04_Compare_l17
        rw [show decide ((a.length : Int) < (a.length : Int)) = false from decide_eq_false (by omega)]; rfl)]
      rw [List.drop_length]
      by_cases hlt : a.length < b.length
      · rw [List.drop_eq_getElem_cons hlt]
        simp [hlt, cmpL]
      · rw [List.drop_eq_nil_of_le (by omega)]
        have h2 : ¬ b.length < a.length := by omega
        simp [hlt, h2, cmpL]
    | succ d ih =>
      intro i hd hia hib
      have hlt : i < a.length := by omega
      have hx : ix a (i : Int) = some a[i] := by rw [ix_nat, List.getElem?_eq_getElem hlt]
      rw [List.drop_eq_getElem_cons hlt]
      by_cases hb : i < b.length
      · have hy : ix b (i : Int) = some b[i] := by rw [ix_nat, List.getElem?_eq_getElem hb]
        rw [List.drop_eq_getElem_cons hb]
        unfold cmpL
        have hbody : tocsinref04_Compare_l17 a b (i : Int) = some (if cmpX a[i] b[i] ≠ 0 then .inr (.inr (cmpX a[i] b[i])) else .inl ((i + 1 : Nat) : Int)) := by
          unfold tocsinref04_Compare_l17
          rw [show decide ((i : Int) < (a.length : Int)) = true from decide_eq_true (by omega), show decide ((i : Int) < (b.length : Int)) = true from decide_eq_true (by omega)]
          simp only [Bool.and_self, cond_true, hx, hy, Option.bind_some, side_eq, wrap_up (show i < 4294967296 by omega)]
          unfold cmpX
          by_cases h : cmpS a[i].f0 b[i].f0 = 0
          · have h' : ¬ (cmpS a[i].f0 b[i].f0 ≠ 0) := by simpa using h
            simp only [if_neg h', show (cmpS a[i].f0 b[i].f0 != 0) = false by simp [h], cond_false]
            by_cases h2 : cmpS a[i].f1 b[i].f1 = 0
            · simp [h2]
            · rw [if_pos h2, show (cmpS a[i].f1 b[i].f1 != 0) = true by simpa using h2]; rfl
          · have h' : cmpS a[i].f0 b[i].f0 ≠ 0 := h
            simp only [if_pos h', show (cmpS a[i].f0 b[i].f0 != 0) = true by simpa using h, cond_true]
        by_cases h : cmpX a[i] b[i] = 0
        · rw [if_neg (by simpa using h)] at hbody ⊢
          rw [loopO_step hbody]
          exact ih (i + 1) (by omega) (by omega) (by omega)
        · rw [if_pos h] at hbody ⊢
          rw [loopO_done hbody]; rfl
      · rw [List.drop_eq_nil_of_le (show b.length ≤ i by omega)]
        have hbody : tocsinref04_Compare_l17 a b (i : Int) = some (.inr (.inl ())) := by
          unfold tocsinref04_Compare_l17
          rw [show decide ((i : Int) < (a.length : Int)) = true from decide_eq_true (by omega), show decide ((i : Int) < (b.length : Int)) = false from decide_eq_false (by omega)]
          rfl
        rw [loopO_done hbody]
        have h1 : ¬ a.length < b.length := by omega
        have h2 : b.length < a.length := by omega
        simp [h1, h2, cmpL]
  have := key a.length 0 (by omega) (by omega) (by omega)
  rw [show ((0 : Nat) : Int) = 0 from rfl] at this
  exact this
end Go.Proofs.YtnlkfajnaelnnaaGreatDoor

set_option linter.unusedVariables false
set_option linter.unusedSimpArgs false
set_option maxRecDepth 100000
namespace Go.Proofs.YtnlkfajnaelnnaaGreatDoor
open Go.GB
noncomputable def labels_Hash_1_l16_c (a0 : ByteArray) : (Int × Int) → Option ((Int × Int) ⊕ (Int)) := fun s7 =>
  bif (decide (s7.2 < (a0.size : Int))) then
  (Option.bind (bx a0 s7.2) fun (c19 : Int) =>
    some (Sum.inl ((IntKind.wrap .u64 ((bitXor .u64 s7.1 (IntKind.wrap .u64 c19)) * 1099511628211)), (IntKind.wrap .i64 (s7.2 + 1)))))
  else
  (some (Sum.inr s7.1))
theorem labels_Hash_1_l16_ev (a0 : ByteArray) (s7 : Int × Int) : OLe (labels_Hash_1_l16_c a0 s7) (labels_Hash_1_l16 a0 s7) := by
  unfold labels_Hash_1_l16_c labels_Hash_1_l16
  exact (OLe.cond (OLe.bind (OLe.refl _) (fun _ => (OLe.refl _))) (OLe.refl _))
noncomputable def labels_Hash_1_c (a0 : ByteArray) (a1 : Int) : Option Int :=
  Option.bind (loopF 1000000 (labels_Hash_1_l16_c a0) (a1, 0)) fun (r5 : Int) =>
  some (IntKind.wrap .u64 ((bitXor .u64 r5 255) * 1099511628211))
theorem labels_Hash_1_ev (a0 : ByteArray) (a1 : Int) : OLe (labels_Hash_1_c a0 a1) (labels_Hash_1 a0 a1) := by
  unfold labels_Hash_1_c labels_Hash_1
  exact (OLe.bind (OLe.loop (fun _ => labels_Hash_1_l16_ev _ _)) (fun _ => (OLe.refl _)))
noncomputable def labels_Hash_l17_c (a0 : List S49) : (Int × Int) → Option ((Int × Int) ⊕ (Int)) := fun s8 =>
  bif (decide (s8.2 < (a0.length : Int))) then
  (Option.bind (ix a0 s8.2) fun (x20 : S49) =>
    Option.bind (labels_Hash_1_c x20.f0 s8.1) fun (y29 : Int) =>
    Option.bind (labels_Hash_1_c x20.f1 y29) fun (y34 : Int) =>
    some (Sum.inl (y34, (IntKind.wrap .i64 (s8.2 + 1)))))
  else
  (some (Sum.inr s8.1))
theorem labels_Hash_l17_ev (a0 : List S49) (s8 : Int × Int) : OLe (labels_Hash_l17_c a0 s8) (labels_Hash_l17 a0 s8) := by
  unfold labels_Hash_l17_c labels_Hash_l17
  exact (OLe.cond (OLe.bind (OLe.refl _) (fun _ => (OLe.bind (labels_Hash_1_ev _ _) (fun _ => (OLe.bind (labels_Hash_1_ev _ _) (fun _ => (OLe.refl _))))))) (OLe.refl _))
noncomputable def labels_Hash_c (a0 : List S49) : Option Int :=
  Option.bind (loopF 1000000 (labels_Hash_l17_c a0) (14695981039346656037, 0)) fun (r6 : Int) =>
  some r6
theorem labels_Hash_ev (a0 : List S49) : OLe (labels_Hash_c a0) (labels_Hash a0) := by
  unfold labels_Hash_c labels_Hash
  exact (OLe.bind (OLe.loop (fun _ => labels_Hash_l17_ev _ _)) (fun _ => (OLe.refl _)))
noncomputable def labels_reader_blanks_l16_c (a0 : S89) : Int → Option ((Int) ⊕ (Int)) := fun s7 =>
  Option.bind (bif (decide (s7 < (a0.f0.size : Int))) then
    (Option.bind (bx a0.f0 s7) fun (c24 : Int) =>
      bif (c24 == 32) then
      (some true)
      else
      (Option.bind (bx a0.f0 s7) fun (c27 : Int) =>
        some (c27 == 9)))
    else
    (some false)) fun (j18 : Bool) =>
  bif j18 then
  (some (Sum.inl (IntKind.wrap .i64 (s7 + 1))))
  else
  (some (Sum.inr s7))
theorem labels_reader_blanks_l16_ev (a0 : S89) (s7 : Int) : OLe (labels_reader_blanks_l16_c a0 s7) (labels_reader_blanks_l16 a0 s7) := by
  unfold labels_reader_blanks_l16_c labels_reader_blanks_l16
  exact (OLe.bind (OLe.cond (OLe.bind (OLe.refl _) (fun _ => (OLe.cond (OLe.refl _) (OLe.bind (OLe.refl _) (fun _ => (OLe.refl _)))))) (OLe.refl _)) (fun _ => (OLe.cond (OLe.refl _) (OLe.refl _))))
noncomputable def labels_reader_blanks_c (a0 : S89) : Option S89 :=
  Option.bind (loopF 1000000 (labels_reader_blanks_l16_c a0) a0.f1) fun (r5 : Int) =>
  some (⟨a0.f0, r5, a0.f2⟩ : S89)
theorem labels_reader_blanks_ev (a0 : S89) : OLe (labels_reader_blanks_c a0) (labels_reader_blanks a0) := by
  unfold labels_reader_blanks_c labels_reader_blanks
  exact (OLe.bind (OLe.loop (fun _ => labels_reader_blanks_l16_ev _ _)) (fun _ => (OLe.refl _)))
noncomputable def labels_named_l33_c (a2 : Bool) (l11 : List Int) : Int → Option ((Int) ⊕ ((Unit) ⊕ (Bool))) := fun s23 =>
  bif (decide (s23 < (l11.length : Int))) then
  (Option.bind (ix l11 s23) fun (x36 : Int) =>
    bif (((!(labels_letter x36)) && (!(labels_digit x36))) && (!(a2 && (x36 == 58)))) then
    (some (Sum.inr (Sum.inr false)))
    else
    (some (Sum.inl (IntKind.wrap .i64 (s23 + 1)))))
  else
  (some (Sum.inr (Sum.inl ())))
theorem labels_named_l33_ev (a2 : Bool) (l11 : List Int) (s23 : Int) : OLe (labels_named_l33_c a2 l11 s23) (labels_named_l33 a2 l11 s23) := by
  unfold labels_named_l33_c labels_named_l33
  exact (OLe.cond (OLe.bind (OLe.refl _) (fun _ => (OLe.cond (OLe.refl _) (OLe.refl _)))) (OLe.refl _))
noncomputable def labels_named_c (a0 : ByteArray) (a1 : Int) (a2 : Bool) : Option Bool :=
  Option.bind (bif (a0.toList == (⟨#[]⟩ : ByteArray).toList) then
    (some true)
    else
    (bif (decide ((a0.size : Int) > a1)) then
      (some true)
      else
      (Option.bind (bx a0 0) fun (c8 : Int) =>
        some (labels_digit c8)))) fun (j1 : Bool) =>
  bif j1 then
  (some false)
  else
  (Option.bind (sb a0) fun (l11 : List Int) =>
    Option.bind (loopF 1000000 (labels_named_l33_c a2 l11) 0) fun (r21 : (Unit) ⊕ (Bool)) =>
    match r21 with
    | Sum.inl r29 => some true
    | Sum.inr v54 => some v54)
theorem labels_named_ev (a0 : ByteArray) (a1 : Int) (a2 : Bool) : OLe (labels_named_c a0 a1 a2) (labels_named a0 a1 a2) := by
  unfold labels_named_c labels_named
  exact (OLe.bind (OLe.cond (OLe.refl _) (OLe.cond (OLe.refl _) (OLe.bind (OLe.refl _) (fun _ => (OLe.refl _))))) (fun _ => (OLe.cond (OLe.refl _) (OLe.bind (OLe.refl _) (fun _ => (OLe.bind (OLe.loop (fun _ => labels_named_l33_ev _ _ _)) (fun j => by cases j with | inl a => exact (OLe.refl _) | inr b => exact (OLe.refl _))))))))
noncomputable def labels_Metric_c (a0 : ByteArray) : Option Bool :=
  Option.bind (labels_named_c a0 256 true) fun (y1 : Bool) =>
  some y1
theorem labels_Metric_ev (a0 : ByteArray) : OLe (labels_Metric_c a0) (labels_Metric a0) := by
  unfold labels_Metric_c labels_Metric
  exact (OLe.bind (labels_named_ev _ _ _) (fun _ => (OLe.refl _)))
noncomputable def labels_Name_c (a0 : ByteArray) : Option Bool :=
  Option.bind (labels_named_c a0 64 false) fun (y1 : Bool) =>
  some y1
theorem labels_Name_ev (a0 : ByteArray) : OLe (labels_Name_c a0) (labels_Name a0) := by
  unfold labels_Name_c labels_Name
  exact (OLe.bind (labels_named_ev _ _ _) (fun _ => (OLe.refl _)))
noncomputable def labels_reader_fail_c (a0 : S89) (a1 : Int) : Option S89 :=
  Option.bind (bif (decide (a0.f2 < 0)) then
    (some a1)
    else
    (some a0.f2)) fun (j1 : Int) =>
  some (⟨a0.f0, a0.f1, j1⟩ : S89)
theorem labels_reader_fail_ev (a0 : S89) (a1 : Int) : OLe (labels_reader_fail_c a0 a1) (labels_reader_fail a0 a1) := by
  unfold labels_reader_fail_c labels_reader_fail
  exact (OLe.bind (OLe.cond (OLe.refl _) (OLe.refl _)) (fun _ => (OLe.refl _)))
noncomputable def labels_reader_name_l22_c (a1 : Bool) (y2 : S89) : Int → Option ((Int) ⊕ (Int)) := fun s13 =>
  Option.bind (bif (decide (s13 < (y2.f0.size : Int))) then
    (Option.bind (bx y2.f0 s13) fun (c30 : Int) =>
      bif (labels_letter c30) then
      (some true)
      else
      (Option.bind (bx y2.f0 s13) fun (c33 : Int) =>
        bif (labels_digit c33) then
        (some true)
        else
        (bif a1 then
          (Option.bind (bx y2.f0 s13) fun (c37 : Int) =>
            some (c37 == 58))
          else
          (some false))))
    else
    (some false)) fun (j24 : Bool) =>
  bif j24 then
  (some (Sum.inl (IntKind.wrap .i64 (s13 + 1))))
  else
  (some (Sum.inr s13))
theorem labels_reader_name_l22_ev (a1 : Bool) (y2 : S89) (s13 : Int) : OLe (labels_reader_name_l22_c a1 y2 s13) (labels_reader_name_l22 a1 y2 s13) := by
  unfold labels_reader_name_l22_c labels_reader_name_l22
  exact (OLe.bind (OLe.cond (OLe.bind (OLe.refl _) (fun _ => (OLe.cond (OLe.refl _) (OLe.bind (OLe.refl _) (fun _ => (OLe.cond (OLe.refl _) (OLe.cond (OLe.bind (OLe.refl _) (fun _ => (OLe.refl _))) (OLe.refl _)))))))) (OLe.refl _)) (fun _ => (OLe.cond (OLe.refl _) (OLe.refl _))))
noncomputable def labels_reader_name_c (a0 : S89) (a1 : Bool) : Option (ByteArray × S89) :=
  bif (decide (a0.f2 ≥ 0)) then
  (some ((⟨#[]⟩ : ByteArray), a0))
  else
  (Option.bind (labels_reader_blanks_c a0) fun (y2 : S89) =>
    Option.bind (loopF 1000000 (labels_reader_name_l22_c a1 y2) y2.f1) fun (r11 : Int) =>
    Option.bind (sx y2.f0 y2.f1 r11) fun (s41 : ByteArray) =>
    Option.bind (bif a1 then
      (Option.bind (labels_Metric_c s41) fun (y48 : Bool) =>
        bif (!y48) then
        (some true)
        else
        (bif (!a1) then
          (Option.bind (labels_Name_c s41) fun (y52 : Bool) =>
            some (!y52))
          else
          (some false)))
      else
      (bif (!a1) then
        (Option.bind (labels_Name_c s41) fun (y55 : Bool) =>
          some (!y55))
        else
        (some false))) fun (j42 : Bool) =>
    Option.bind (bif j42 then
      (Option.bind (bif (s41.toList == (⟨#[]⟩ : ByteArray).toList) then
          (Option.bind (labels_reader_fail_c (⟨y2.f0, r11, y2.f2⟩ : S89) r11) fun (y69 : S89) =>
            some (y69.f0, y69.f1, y69.f2))
          else
          (some (y2.f0, r11, y2.f2))) fun (j63 : ByteArray × Int × Int) =>
        Option.bind (labels_reader_fail_c (⟨j63.1, j63.2.1, j63.2.2⟩ : S89) y2.f1) fun (y74 : S89) =>
        some (y74.f0, y74.f1, y74.f2))
      else
      (some (y2.f0, r11, y2.f2))) fun (j57 : ByteArray × Int × Int) =>
    some (s41, (⟨j57.1, j57.2.1, j57.2.2⟩ : S89)))
theorem labels_reader_name_ev (a0 : S89) (a1 : Bool) : OLe (labels_reader_name_c a0 a1) (labels_reader_name a0 a1) := by
  unfold labels_reader_name_c labels_reader_name
  exact (OLe.cond (OLe.refl _) (OLe.bind (labels_reader_blanks_ev _) (fun _ => (OLe.bind (OLe.loop (fun _ => labels_reader_name_l22_ev _ _ _)) (fun _ => (OLe.bind (OLe.refl _) (fun _ => (OLe.bind (OLe.cond (OLe.bind (labels_Metric_ev _) (fun _ => (OLe.cond (OLe.refl _) (OLe.cond (OLe.bind (labels_Name_ev _) (fun _ => (OLe.refl _))) (OLe.refl _))))) (OLe.cond (OLe.bind (labels_Name_ev _) (fun _ => (OLe.refl _))) (OLe.refl _))) (fun _ => (OLe.bind (OLe.cond (OLe.bind (OLe.cond (OLe.bind (labels_reader_fail_ev _ _) (fun _ => (OLe.refl _))) (OLe.refl _)) (fun _ => (OLe.bind (labels_reader_fail_ev _ _) (fun _ => (OLe.refl _))))) (OLe.refl _)) (fun _ => (OLe.refl _))))))))))))
noncomputable def labels_reader_next_c (a0 : S89) (a1 : Int) : Option (Bool × S89) :=
  bif (decide (a0.f2 ≥ 0)) then
  (some (false, a0))
  else
  (Option.bind (labels_reader_blanks_c a0) fun (y2 : S89) =>
    Option.bind (bif (decide (y2.f1 ≥ (y2.f0.size : Int))) then
      (some true)
      else
      (Option.bind (bx y2.f0 y2.f1) fun (c13 : Int) =>
        some (c13 != a1))) fun (j7 : Bool) =>
    bif j7 then
    (some (false, y2))
    else
    (some (true, (⟨y2.f0, (IntKind.wrap .i64 (y2.f1 + 1)), y2.f2⟩ : S89))))
theorem labels_reader_next_ev (a0 : S89) (a1 : Int) : OLe (labels_reader_next_c a0 a1) (labels_reader_next a0 a1) := by
  unfold labels_reader_next_c labels_reader_next
  exact (OLe.cond (OLe.refl _) (OLe.bind (labels_reader_blanks_ev _) (fun _ => (OLe.bind (OLe.cond (OLe.refl _) (OLe.bind (OLe.refl _) (fun _ => (OLe.refl _)))) (fun _ => (OLe.cond (OLe.refl _) (OLe.refl _)))))))
noncomputable def labels_reader_want_c (a0 : S89) (a1 : Int) : Option S89 :=
  Option.bind (labels_reader_next_c a0 a1) fun (y1 : Bool × S89) =>
  Option.bind (bif (!y1.1) then
    (Option.bind (labels_reader_fail_c y1.2 y1.2.f1) fun (y12 : S89) =>
      some (y12.f0, y12.f1, y12.f2))
    else
    (some (y1.2.f0, y1.2.f1, y1.2.f2))) fun (j6 : ByteArray × Int × Int) =>
  some (⟨j6.1, j6.2.1, j6.2.2⟩ : S89)
theorem labels_reader_want_ev (a0 : S89) (a1 : Int) : OLe (labels_reader_want_c a0 a1) (labels_reader_want a0 a1) := by
  unfold labels_reader_want_c labels_reader_want
  exact (OLe.bind (labels_reader_next_ev _ _) (fun _ => (OLe.bind (OLe.cond (OLe.bind (labels_reader_fail_ev _ _) (fun _ => (OLe.refl _))) (OLe.refl _)) (fun _ => (OLe.refl _)))))
noncomputable def strings_Builder_WriteByte_c (a0 : S127) (a1 : Int) : Option (Unit × S127) :=
  Option.bind (app ((strings_Builder_copyCheck (⟨a0.f1⟩ : S127)).f1) [a1]) fun (zs14 : List Int) =>
  some ((), (⟨zs14⟩ : S127))
theorem strings_Builder_WriteByte_ev (a0 : S127) (a1 : Int) : OLe (strings_Builder_WriteByte_c a0 a1) (strings_Builder_WriteByte a0 a1) := by
  unfold strings_Builder_WriteByte_c strings_Builder_WriteByte
  exact (OLe.bind (OLe.refl _) (fun _ => (OLe.refl _)))
noncomputable def labels_reader_value_l35_c : (ByteArray × Int × Int × Unit × (List Int)) → Option ((ByteArray × Int × Int × Unit × (List Int)) ⊕ ((ByteArray × Int × Int) ⊕ (ByteArray × S89))) := fun s19 =>
  bif ((decide (s19.2.2.1 < 0)) && (decide (s19.2.1 < (s19.1.size : Int)))) then
  (Option.bind (bx s19.1 s19.2.1) fun (c44 : Int) =>
    bif (c44 == 34) then
    (Option.bind (strings_Builder_String (⟨s19.2.2.2.2⟩ : S127)) fun (y47 : ByteArray) =>
      some (Sum.inr (Sum.inr (y47, (⟨s19.1, (IntKind.wrap .i64 (s19.2.1 + 1)), s19.2.2.1⟩ : S89)))))
    else
    (Option.bind (bif (c44 != 92) then
        (Option.bind (strings_Builder_WriteByte_c (⟨s19.2.2.2.2⟩ : S127) c44) fun (y64 : Unit × S127) =>
          some ((), y64.2.f1, s19.1, (IntKind.wrap .i64 (s19.2.1 + 1)), s19.2.2.1))
        else
        (Option.bind (bif (decide ((IntKind.wrap .i64 (s19.2.1 + 1)) ≥ (s19.1.size : Int))) then
            (Option.bind (labels_reader_fail_c (⟨s19.1, (IntKind.wrap .i64 (s19.2.1 + 1)), s19.2.2.1⟩ : S89) (IntKind.wrap .i64 (s19.2.1 + 1))) fun (y87 : S89) =>
              some ((), s19.2.2.2.2, y87.f0, y87.f1, y87.f2))
            else
            (Option.bind (bx s19.1 (IntKind.wrap .i64 (s19.2.1 + 1))) fun (c92 : Int) =>
              Option.bind (bif (c92 == 110) then
                (Option.bind (strings_Builder_WriteByte_c (⟨s19.2.2.2.2⟩ : S127) 10) fun (y106 : Unit × S127) =>
                  some ((), y106.2.f1, s19.1, (IntKind.wrap .i64 (s19.2.1 + 1)), s19.2.2.1))
                else
                (Option.bind (bif ((c92 == 92) || (c92 == 34)) then
                    (Option.bind (strings_Builder_WriteByte_c (⟨s19.2.2.2.2⟩ : S127) c92) fun (y133 : Unit × S127) =>
                      some ((), y133.2.f1, s19.1, (IntKind.wrap .i64 (s19.2.1 + 1)), s19.2.2.1))
                    else
                    (Option.bind (labels_reader_fail_c (⟨s19.1, (IntKind.wrap .i64 (s19.2.1 + 1)), s19.2.2.1⟩ : S89) (IntKind.wrap .i64 ((IntKind.wrap .i64 (s19.2.1 + 1)) - 1))) fun (y144 : S89) =>
                      some ((), s19.2.2.2.2, y144.f0, y144.f1, y144.f2))) fun (j121 : Unit × (List Int) × ByteArray × Int × Int) =>
                  some ((), j121.2.1, j121.2.2.1, j121.2.2.2.1, j121.2.2.2.2))) fun (j94 : Unit × (List Int) × ByteArray × Int × Int) =>
              some ((), j94.2.1, j94.2.2.1, (IntKind.wrap .i64 (j94.2.2.2.1 + 1)), j94.2.2.2.2))) fun (j75 : Unit × (List Int) × ByteArray × Int × Int) =>
          some ((), j75.2.1, j75.2.2.1, j75.2.2.2.1, j75.2.2.2.2))) fun (j52 : Unit × (List Int) × ByteArray × Int × Int) =>
      some (Sum.inl (j52.2.2.1, j52.2.2.2.1, j52.2.2.2.2, (), j52.2.1))))
  else
  (some (Sum.inr (Sum.inl (s19.1, s19.2.1, s19.2.2.1))))
theorem labels_reader_value_l35_ev  (s19 : ByteArray × Int × Int × Unit × (List Int)) : OLe (labels_reader_value_l35_c  s19) (labels_reader_value_l35  s19) := by
  unfold labels_reader_value_l35_c labels_reader_value_l35
  exact (OLe.cond (OLe.bind (OLe.refl _) (fun _ => (OLe.cond (OLe.bind (OLe.refl _) (fun _ => (OLe.refl _))) (OLe.bind (OLe.cond (OLe.bind (strings_Builder_WriteByte_ev _ _) (fun _ => (OLe.refl _))) (OLe.bind (OLe.cond (OLe.bind (labels_reader_fail_ev _ _) (fun _ => (OLe.refl _))) (OLe.bind (OLe.refl _) (fun _ => (OLe.bind (OLe.cond (OLe.bind (strings_Builder_WriteByte_ev _ _) (fun _ => (OLe.refl _))) (OLe.bind (OLe.cond (OLe.bind (strings_Builder_WriteByte_ev _ _) (fun _ => (OLe.refl _))) (OLe.bind (labels_reader_fail_ev _ _) (fun _ => (OLe.refl _)))) (fun _ => (OLe.refl _)))) (fun _ => (OLe.refl _)))))) (fun _ => (OLe.refl _)))) (fun _ => (OLe.refl _)))))) (OLe.refl _))
noncomputable def labels_reader_value_c (a0 : S89) : Option (ByteArray × S89) :=
  Option.bind (labels_reader_want_c a0 34) fun (y1 : S89) =>
  Option.bind (loopF 1000000 labels_reader_value_l35_c (y1.f0, y1.f1, y1.f2, (), [])) fun (r17 : (ByteArray × Int × Int) ⊕ (ByteArray × S89)) =>
  match r17 with
  | Sum.inl r31 => Option.bind (labels_reader_fail_c (⟨r31.1, r31.2.1, r31.2.2⟩ : S89) (r31.1.size : Int)) fun (y149 : S89) =>
    some ((⟨#[]⟩ : ByteArray), y149)
  | Sum.inr v154 => some v154
theorem labels_reader_value_ev (a0 : S89) : OLe (labels_reader_value_c a0) (labels_reader_value a0) := by
  unfold labels_reader_value_c labels_reader_value
  exact (OLe.bind (labels_reader_want_ev _ _) (fun _ => (OLe.bind (OLe.loop (fun _ => labels_reader_value_l35_ev  _)) (fun j => by cases j with | inl a => exact (OLe.bind (labels_reader_fail_ev _ _) (fun _ => (OLe.refl _))) | inr b => exact (OLe.refl _)))))
noncomputable def labels_reader_braces_l29_c : (ByteArray × Int × Int × (List S49)) → Option ((ByteArray × Int × Int × (List S49)) ⊕ (((List S49) × ByteArray × Int × Int) ⊕ ((List S49) × S89))) := fun s11 =>
  Option.bind (labels_reader_next_c (⟨s11.1, s11.2.1, s11.2.2.1⟩ : S89) 125) fun (y31 : Bool × S89) =>
  bif (!y31.1) then
  (Option.bind (labels_reader_name_c y31.2 false) fun (y37 : ByteArray × S89) =>
    Option.bind (labels_reader_want_c y37.2 61) fun (y43 : S89) =>
    Option.bind (labels_reader_value_c y43) fun (y48 : ByteArray × S89) =>
    bif (decide (y48.2.f2 ≥ 0)) then
    (some (Sum.inr (Sum.inr ([], y48.2))))
    else
    (Option.bind (app s11.2.2.2 [(⟨y37.1, y48.1⟩ : S49)]) fun (zs58 : List S49) =>
      Option.bind (labels_reader_next_c y48.2 44) fun (y64 : Bool × S89) =>
      bif (!y64.1) then
      (Option.bind (labels_reader_want_c y64.2 125) fun (y70 : S89) =>
        some (Sum.inr (Sum.inr (zs58, y70))))
      else
      (some (Sum.inl (y64.2.f0, y64.2.f1, y64.2.f2, zs58)))))
  else
  (some (Sum.inr (Sum.inl (s11.2.2.2, y31.2.f0, y31.2.f1, y31.2.f2))))
theorem labels_reader_braces_l29_ev  (s11 : ByteArray × Int × Int × (List S49)) : OLe (labels_reader_braces_l29_c  s11) (labels_reader_braces_l29  s11) := by
  unfold labels_reader_braces_l29_c labels_reader_braces_l29
  exact (OLe.bind (labels_reader_next_ev _ _) (fun _ => (OLe.cond (OLe.bind (labels_reader_name_ev _ _) (fun _ => (OLe.bind (labels_reader_want_ev _ _) (fun _ => (OLe.bind (labels_reader_value_ev _) (fun _ => (OLe.cond (OLe.refl _) (OLe.bind (OLe.refl _) (fun _ => (OLe.bind (labels_reader_next_ev _ _) (fun _ => (OLe.cond (OLe.bind (labels_reader_want_ev _ _) (fun _ => (OLe.refl _))) (OLe.refl _))))))))))))) (OLe.refl _))))
noncomputable def labels_reader_braces_c (a0 : S89) : Option ((List S49) × S89) :=
  Option.bind (loopF 1000000 labels_reader_braces_l29_c (a0.f0, a0.f1, a0.f2, [])) fun (r9 : ((List S49) × ByteArray × Int × Int) ⊕ ((List S49) × S89)) =>
  match r9 with
  | Sum.inl r21 => some (r21.1, (⟨r21.2.1, r21.2.2.1, r21.2.2.2⟩ : S89))
  | Sum.inr v75 => some v75
theorem labels_reader_braces_ev (a0 : S89) : OLe (labels_reader_braces_c a0) (labels_reader_braces a0) := by
  unfold labels_reader_braces_c labels_reader_braces
  exact (OLe.bind (OLe.loop (fun _ => labels_reader_braces_l29_ev  _)) (fun j => by cases j with | inl a => exact (OLe.refl _) | inr b => exact (OLe.refl _)))
noncomputable def labels_own_c (a0 : List S49) : Option (List S49) :=
  Option.bind (mkrow ((⟨(⟨#[]⟩ : ByteArray), (⟨#[]⟩ : ByteArray)⟩ : S49) : S49) (a0.length : Int) (a0.length : Int)) fun (xs1 : List S49) =>
  some (lcopy xs1 a0)
theorem labels_own_ev (a0 : List S49) : OLe (labels_own_c a0) (labels_own a0) := by
  unfold labels_own_c labels_own
  exact (OLe.bind (OLe.refl _) (fun _ => (OLe.refl _)))
noncomputable def slices_insertionSortCmpFunc_l52_c (a1 : Int) : ((List S49) × Int) → Option (((List S49) × Int) ⊕ ((List S49))) := fun s37 =>
  Option.bind (bif (decide (s37.2 > a1)) then
    (Option.bind (ix s37.1 s37.2) fun (x60 : S49) =>
      Option.bind (ix s37.1 (IntKind.wrap .i64 (s37.2 - 1))) fun (x69 : S49) =>
      some (decide ((labels_sorted_1 x60 x69) < 0)))
    else
    (some false)) fun (j54 : Bool) =>
  bif j54 then
  (Option.bind (ix s37.1 (IntKind.wrap .i64 (s37.2 - 1))) fun (x79 : S49) =>
    Option.bind (ix s37.1 s37.2) fun (x88 : S49) =>
    Option.bind (ix s37.1 s37.2) fun (x97 : S49) =>
    Option.bind (ix (lset s37.1 s37.2 x79) (IntKind.wrap .i64 (s37.2 - 1))) fun (x109 : S49) =>
    some (Sum.inl ((lset (lset s37.1 s37.2 x79) (IntKind.wrap .i64 (s37.2 - 1)) x88), (IntKind.wrap .i64 (s37.2 - 1)))))
  else
  (some (Sum.inr s37.1))
theorem slices_insertionSortCmpFunc_l52_ev (a1 : Int) (s37 : (List S49) × Int) : OLe (slices_insertionSortCmpFunc_l52_c a1 s37) (slices_insertionSortCmpFunc_l52 a1 s37) := by
  unfold slices_insertionSortCmpFunc_l52_c slices_insertionSortCmpFunc_l52
  exact (OLe.bind (OLe.cond (OLe.bind (OLe.refl _) (fun _ => (OLe.bind (OLe.refl _) (fun _ => (OLe.refl _))))) (OLe.refl _)) (fun _ => (OLe.cond (OLe.bind (OLe.refl _) (fun _ => (OLe.bind (OLe.refl _) (fun _ => (OLe.bind (OLe.refl _) (fun _ => (OLe.bind (OLe.refl _) (fun _ => (OLe.refl _))))))))) (OLe.refl _))))
noncomputable def slices_insertionSortCmpFunc_l25_c (a1 : Int) (a2 : Int) : ((List S49) × Int) → Option (((List S49) × Int) ⊕ ((List S49))) := fun s10 =>
  bif (decide (s10.2 < a2)) then
  (Option.bind (loopF 1000000 (slices_insertionSortCmpFunc_l52_c a1) (s10.1, s10.2)) fun (r35 : (List S49)) =>
    some (Sum.inl (r35, (IntKind.wrap .i64 (s10.2 + 1)))))
  else
  (some (Sum.inr s10.1))
theorem slices_insertionSortCmpFunc_l25_ev (a1 : Int) (a2 : Int) (s10 : (List S49) × Int) : OLe (slices_insertionSortCmpFunc_l25_c a1 a2 s10) (slices_insertionSortCmpFunc_l25 a1 a2 s10) := by
  unfold slices_insertionSortCmpFunc_l25_c slices_insertionSortCmpFunc_l25
  exact (OLe.cond (OLe.bind (OLe.loop (fun _ => slices_insertionSortCmpFunc_l52_ev _ _)) (fun _ => (OLe.refl _))) (OLe.refl _))
noncomputable def slices_insertionSortCmpFunc_c (a0 : List S49) (a1 : Int) (a2 : Int) : Option (List S49) :=
  Option.bind (loopF 1000000 (slices_insertionSortCmpFunc_l25_c a1 a2) (a0, (IntKind.wrap .i64 (a1 + 1)))) fun (r8 : (List S49)) =>
  some r8
theorem slices_insertionSortCmpFunc_ev (a0 : List S49) (a1 : Int) (a2 : Int) : OLe (slices_insertionSortCmpFunc_c a0 a1 a2) (slices_insertionSortCmpFunc a0 a1 a2) := by
  unfold slices_insertionSortCmpFunc_c slices_insertionSortCmpFunc
  exact (OLe.bind (OLe.loop (fun _ => slices_insertionSortCmpFunc_l25_ev _ _ _)) (fun _ => (OLe.refl _)))
noncomputable def slices_symMergeCmpFunc_c (a0 : List S49) (a1 : Int) (a2 : Int) (a3 : Int) : Option (List S49) := none
theorem slices_symMergeCmpFunc_ev (a0 : List S49) (a1 : Int) (a2 : Int) (a3 : Int) : OLe (slices_symMergeCmpFunc_c a0 a1 a2 a3) (slices_symMergeCmpFunc a0 a1 a2 a3) := by
  intro r h; cases h
noncomputable def slices_stableCmpFunc_l25_c (a1 : Int) : ((List S49) × Int × Int) → Option (((List S49) × Int × Int) ⊕ ((List S49) × Int)) := fun s10 =>
  bif (decide (s10.2.2 ≤ a1)) then
  (Option.bind (slices_insertionSortCmpFunc_c s10.1 s10.2.1 s10.2.2) fun (y28 : (List S49)) =>
    some (Sum.inl (y28, s10.2.2, (IntKind.wrap .i64 (s10.2.2 + 20)))))
  else
  (some (Sum.inr (s10.1, s10.2.1)))
theorem slices_stableCmpFunc_l25_ev (a1 : Int) (s10 : (List S49) × Int × Int) : OLe (slices_stableCmpFunc_l25_c a1 s10) (slices_stableCmpFunc_l25 a1 s10) := by
  unfold slices_stableCmpFunc_l25_c slices_stableCmpFunc_l25
  exact (OLe.cond (OLe.bind (slices_insertionSortCmpFunc_ev _ _ _) (fun _ => (OLe.refl _))) (OLe.refl _))
noncomputable def slices_stableCmpFunc_l95_c (a1 : Int) (s53 : (List S49) × Int) : ((List S49) × Int × Int) → Option (((List S49) × Int × Int) ⊕ ((List S49) × Int)) := fun s80 =>
  bif (decide (s80.2.2 ≤ a1)) then
  (Option.bind (slices_symMergeCmpFunc_c s80.1 s80.2.1 (IntKind.wrap .i64 (s80.2.1 + s53.2)) s80.2.2) fun (y98 : (List S49)) =>
    some (Sum.inl (y98, s80.2.2, (IntKind.wrap .i64 (s80.2.2 + (IntKind.wrap .i64 (2 * s53.2)))))))
  else
  (some (Sum.inr (s80.1, s80.2.1)))
theorem slices_stableCmpFunc_l95_ev (a1 : Int) (s53 : (List S49) × Int) (s80 : (List S49) × Int × Int) : OLe (slices_stableCmpFunc_l95_c a1 s53 s80) (slices_stableCmpFunc_l95 a1 s53 s80) := by
  unfold slices_stableCmpFunc_l95_c slices_stableCmpFunc_l95
  exact (OLe.cond (OLe.bind (slices_symMergeCmpFunc_ev _ _ _ _) (fun _ => (OLe.refl _))) (OLe.refl _))
noncomputable def slices_stableCmpFunc_l68_c (a1 : Int) : ((List S49) × Int) → Option (((List S49) × Int) ⊕ ((List S49))) := fun s53 =>
  bif (decide (s53.2 < a1)) then
  (Option.bind (loopF 1000000 (slices_stableCmpFunc_l95_c a1 s53) (s53.1, 0, (IntKind.wrap .i64 (2 * s53.2)))) fun (r78 : (List S49) × Int) =>
    Option.bind (bif (decide ((IntKind.wrap .i64 (r78.2 + s53.2)) < a1)) then
      (Option.bind (slices_symMergeCmpFunc_c r78.1 r78.2 (IntKind.wrap .i64 (r78.2 + s53.2)) a1) fun (y115 : (List S49)) =>
        some y115)
      else
      (some r78.1)) fun (j106 : (List S49)) =>
    some (Sum.inl (j106, (IntKind.wrap .i64 (s53.2 * 2)))))
  else
  (some (Sum.inr s53.1))
theorem slices_stableCmpFunc_l68_ev (a1 : Int) (s53 : (List S49) × Int) : OLe (slices_stableCmpFunc_l68_c a1 s53) (slices_stableCmpFunc_l68 a1 s53) := by
  unfold slices_stableCmpFunc_l68_c slices_stableCmpFunc_l68
  exact (OLe.cond (OLe.bind (OLe.loop (fun _ => slices_stableCmpFunc_l95_ev _ _ _)) (fun _ => (OLe.bind (OLe.cond (OLe.bind (slices_symMergeCmpFunc_ev _ _ _ _) (fun _ => (OLe.refl _))) (OLe.refl _)) (fun _ => (OLe.refl _))))) (OLe.refl _))
noncomputable def slices_stableCmpFunc_c (a0 : List S49) (a1 : Int) : Option (List S49) :=
  Option.bind (loopF 1000000 (slices_stableCmpFunc_l25_c a1) (a0, 0, 20)) fun (r8 : (List S49) × Int) =>
  Option.bind (slices_insertionSortCmpFunc_c r8.1 r8.2 a1) fun (y36 : (List S49)) =>
  Option.bind (loopF 1000000 (slices_stableCmpFunc_l68_c a1) (y36, 20)) fun (r51 : (List S49)) =>
  some r51
theorem slices_stableCmpFunc_ev (a0 : List S49) (a1 : Int) : OLe (slices_stableCmpFunc_c a0 a1) (slices_stableCmpFunc a0 a1) := by
  unfold slices_stableCmpFunc_c slices_stableCmpFunc
  exact (OLe.bind (OLe.loop (fun _ => slices_stableCmpFunc_l25_ev _ _)) (fun _ => (OLe.bind (slices_insertionSortCmpFunc_ev _ _ _) (fun _ => (OLe.bind (OLe.loop (fun _ => slices_stableCmpFunc_l68_ev _ _)) (fun _ => (OLe.refl _)))))))
noncomputable def slices_SortStableFunc_c (a0 : List S49) : Option (List S49) :=
  Option.bind (slices_stableCmpFunc_c a0 (a0.length : Int)) fun (y1 : (List S49)) =>
  some y1
theorem slices_SortStableFunc_ev (a0 : List S49) : OLe (slices_SortStableFunc_c a0) (slices_SortStableFunc a0) := by
  unfold slices_SortStableFunc_c slices_SortStableFunc
  exact (OLe.bind (slices_stableCmpFunc_ev _ _) (fun _ => (OLe.refl _)))
noncomputable def labels_sorted_l45_c (y10 : (List S49)) : ((List S49) × Bool × Int) → Option (((List S49) × Bool × Int) ⊕ ((List S49) × Bool)) := fun s28 =>
  bif (decide (s28.2.2 < (y10.length : Int))) then
  (Option.bind (ix y10 s28.2.2) fun (x48 : S49) =>
    Option.bind (bif s28.2.1 then
      (some true)
      else
      (bif (decide (s28.2.2 > 0)) then
        (Option.bind (ix y10 (IntKind.wrap .i64 (s28.2.2 - 1))) fun (x65 : S49) =>
          some (x65.f0.toList == x48.f0.toList))
        else
        (some false))) fun (j58 : Bool) =>
    Option.bind (bif (!(x48.f1.toList == (⟨#[]⟩ : ByteArray).toList)) then
      (Option.bind (app s28.1 [x48]) fun (zs88 : List S49) =>
        some zs88)
      else
      (some s28.1)) fun (j74 : (List S49)) =>
    some (Sum.inl (j74, j58, (IntKind.wrap .i64 (s28.2.2 + 1)))))
  else
  (some (Sum.inr (s28.1, s28.2.1)))
theorem labels_sorted_l45_ev (y10 : (List S49)) (s28 : (List S49) × Bool × Int) : OLe (labels_sorted_l45_c y10 s28) (labels_sorted_l45 y10 s28) := by
  unfold labels_sorted_l45_c labels_sorted_l45
  exact (OLe.cond (OLe.bind (OLe.refl _) (fun _ => (OLe.bind (OLe.cond (OLe.refl _) (OLe.cond (OLe.bind (OLe.refl _) (fun _ => (OLe.refl _))) (OLe.refl _))) (fun _ => (OLe.bind (OLe.cond (OLe.bind (OLe.refl _) (fun _ => (OLe.refl _))) (OLe.refl _)) (fun _ => (OLe.refl _))))))) (OLe.refl _))
noncomputable def labels_sorted_c (a0 : List S49) : Option ((List S49) × Bool) :=
  Option.bind (labels_own_c a0) fun (y1 : (List S49)) =>
  Option.bind (slices_SortStableFunc_c y1) fun (y10 : (List S49)) =>
  Option.bind (loopF 1000000 (labels_sorted_l45_c y10) ([], false, 0)) fun (r26 : (List S49) × Bool) =>
  some (r26.1, r26.2)
theorem labels_sorted_ev (a0 : List S49) : OLe (labels_sorted_c a0) (labels_sorted a0) := by
  unfold labels_sorted_c labels_sorted
  exact (OLe.bind (labels_own_ev _) (fun _ => (OLe.bind (slices_SortStableFunc_ev _) (fun _ => (OLe.bind (OLe.loop (fun _ => labels_sorted_l45_ev _ _)) (fun _ => (OLe.refl _)))))))
noncomputable def utf8_ValidString_c (a0 : ByteArray) : Option Bool := utf8_ValidString a0
theorem utf8_ValidString_ev (a0 : ByteArray) : OLe (utf8_ValidString_c a0) (utf8_ValidString a0) := OLe.refl _
noncomputable def labels_value_c (a0 : ByteArray) : Option Int :=
  bif (a0.toList == (⟨#[]⟩ : ByteArray).toList) then
  (some 41)
  else
  (bif (decide ((a0.size : Int) > 256)) then
    (some 4)
    else
    (Option.bind (utf8_ValidString_c a0) fun (y3 : Bool) =>
      bif (!y3) then
      (some 12)
      else
      (some 0)))
theorem labels_value_ev (a0 : ByteArray) : OLe (labels_value_c a0) (labels_value a0) := by
  unfold labels_value_c labels_value
  exact (OLe.cond (OLe.refl _) (OLe.cond (OLe.refl _) (OLe.bind (utf8_ValidString_ev _) (fun _ => (OLe.cond (OLe.refl _) (OLe.refl _))))))
noncomputable def labels_Right_l18_c (a0 : List S49) : Int → Option ((Int) ⊕ ((Unit) ⊕ (Int × Int))) := fun s8 =>
  bif (decide (s8 < (a0.length : Int))) then
  (Option.bind (ix a0 s8) fun (x21 : S49) =>
    Option.bind (labels_Name_c x21.f0) fun (y30 : Bool) =>
    bif (!y30) then
    (some (Sum.inr (Sum.inr (40, s8))))
    else
    (Option.bind (labels_value_c x21.f1) fun (y33 : Int) =>
      bif (y33 != 0) then
      (some (Sum.inr (Sum.inr (y33, s8))))
      else
      (Option.bind (bif (decide (s8 > 0)) then
          (Option.bind (ix a0 (IntKind.wrap .i64 (s8 - 1))) fun (x42 : S49) =>
            some ((Op.bytesLess x21.f0.toList x42.f0.toList) || (x21.f0.toList == x42.f0.toList)))
          else
          (some false)) fun (j36 : Bool) =>
        bif j36 then
        (some (Sum.inr (Sum.inr (3, s8))))
        else
        (some (Sum.inl (IntKind.wrap .i64 (s8 + 1)))))))
  else
  (some (Sum.inr (Sum.inl ())))
theorem labels_Right_l18_ev (a0 : List S49) (s8 : Int) : OLe (labels_Right_l18_c a0 s8) (labels_Right_l18 a0 s8) := by
  unfold labels_Right_l18_c labels_Right_l18
  exact (OLe.cond (OLe.bind (OLe.refl _) (fun _ => (OLe.bind (labels_Name_ev _) (fun _ => (OLe.cond (OLe.refl _) (OLe.bind (labels_value_ev _) (fun _ => (OLe.cond (OLe.refl _) (OLe.bind (OLe.cond (OLe.bind (OLe.refl _) (fun _ => (OLe.refl _))) (OLe.refl _)) (fun _ => (OLe.cond (OLe.refl _) (OLe.refl _)))))))))))) (OLe.refl _))
noncomputable def labels_Right_c (a0 : List S49) : Option (Int × Int) :=
  bif (decide ((a0.length : Int) > 16)) then
  (some (8, 0))
  else
  (Option.bind (loopF 1000000 (labels_Right_l18_c a0) 0) fun (r6 : (Unit) ⊕ (Int × Int)) =>
    match r6 with
    | Sum.inl r14 => some (0, 0)
    | Sum.inr v51 => some v51)
theorem labels_Right_ev (a0 : List S49) : OLe (labels_Right_c a0) (labels_Right a0) := by
  unfold labels_Right_c labels_Right
  exact (OLe.cond (OLe.refl _) (OLe.bind (OLe.loop (fun _ => labels_Right_l18_ev _ _)) (fun j => by cases j with | inl a => exact (OLe.refl _) | inr b => exact (OLe.refl _))))
noncomputable def labels_Parse_c (a0 : ByteArray) : Option ((List S49) × Int × Int) :=
  bif (decide ((a0.size : Int) > 65536)) then
  (some ([], 4, 0))
  else
  (Option.bind (labels_reader_blanks_c (⟨a0, 0, (-1)⟩ : S89)) fun (y3 : S89) =>
    Option.bind (bif (decide (y3.f1 < (a0.size : Int))) then
      (Option.bind (bx a0 y3.f1) fun (c14 : Int) =>
        some (c14 == 123))
      else
      (some false)) fun (j8 : Bool) =>
    Option.bind (bif (!j8) then
      (Option.bind (labels_reader_name_c y3 true) fun (y26 : ByteArray × S89) =>
        Option.bind (app ([] : List S49) [(⟨(⟨#[95, 95, 110, 97, 109, 101, 95, 95]⟩ : ByteArray), y26.1⟩ : S49)]) fun (zs35 : List S49) =>
        Option.bind (labels_reader_blanks_c y26.2) fun (y41 : S89) =>
        some (zs35, y41.f0, y41.f1, y41.f2))
      else
      (some ([], y3.f0, y3.f1, y3.f2))) fun (j16 : (List S49) × ByteArray × Int × Int) =>
    Option.bind (labels_reader_next_c (⟨j16.2.1, j16.2.2.1, j16.2.2.2⟩ : S89) 123) fun (y46 : Bool × S89) =>
    Option.bind (bif y46.1 then
      (Option.bind (labels_reader_braces_c y46.2) fun (y61 : (List S49) × S89) =>
        Option.bind (app j16.1 y61.1) fun (zs70 : List S49) =>
        some (zs70, y61.2.f0, y61.2.f1, y61.2.f2))
      else
      (some (j16.1, y46.2.f0, y46.2.f1, y46.2.f2))) fun (j51 : (List S49) × ByteArray × Int × Int) =>
    Option.bind (labels_reader_blanks_c (⟨j51.2.1, j51.2.2.1, j51.2.2.2⟩ : S89)) fun (y76 : S89) =>
    Option.bind (bif ((decide (y76.f2 < 0)) && (decide (y76.f1 < (a0.size : Int)))) then
      (Option.bind (labels_reader_fail_c y76 y76.f1) fun (y93 : S89) =>
        some (y93.f0, y93.f1, y93.f2))
      else
      (some (y76.f0, y76.f1, y76.f2))) fun (j87 : ByteArray × Int × Int) =>
    bif (decide (j87.2.2 ≥ 0)) then
    (some ([], 3, j87.2.2))
    else
    (Option.bind (labels_sorted_c j51.1) fun (y103 : (List S49) × Bool) =>
      bif y103.2 then
      (some ([], 6, 0))
      else
      (Option.bind (labels_Right_c y103.1) fun (y113 : Int × Int) =>
        bif (y113.1 != 0) then
        (some ([], y113.1, y113.2))
        else
        (some (y103.1, 0, 0)))))
theorem labels_Parse_ev (a0 : ByteArray) : OLe (labels_Parse_c a0) (labels_Parse a0) := by
  unfold labels_Parse_c labels_Parse
  exact (OLe.cond (OLe.refl _) (OLe.bind (labels_reader_blanks_ev _) (fun _ => (OLe.bind (OLe.cond (OLe.bind (OLe.refl _) (fun _ => (OLe.refl _))) (OLe.refl _)) (fun _ => (OLe.bind (OLe.cond (OLe.bind (labels_reader_name_ev _ _) (fun _ => (OLe.bind (OLe.refl _) (fun _ => (OLe.bind (labels_reader_blanks_ev _) (fun _ => (OLe.refl _))))))) (OLe.refl _)) (fun _ => (OLe.bind (labels_reader_next_ev _ _) (fun _ => (OLe.bind (OLe.cond (OLe.bind (labels_reader_braces_ev _) (fun _ => (OLe.bind (OLe.refl _) (fun _ => (OLe.refl _))))) (OLe.refl _)) (fun _ => (OLe.bind (labels_reader_blanks_ev _) (fun _ => (OLe.bind (OLe.cond (OLe.bind (labels_reader_fail_ev _ _) (fun _ => (OLe.refl _))) (OLe.refl _)) (fun _ => (OLe.cond (OLe.refl _) (OLe.bind (labels_sorted_ev _) (fun _ => (OLe.cond (OLe.refl _) (OLe.bind (labels_Right_ev _) (fun _ => (OLe.cond (OLe.refl _) (OLe.refl _)))))))))))))))))))))))
noncomputable def labels_right_c (a0 : List S49) : Option Int :=
  Option.bind (labels_Right_c a0) fun (y1 : Int × Int) =>
  some y1.1
theorem labels_right_ev (a0 : List S49) : OLe (labels_right_c a0) (labels_right a0) := by
  unfold labels_right_c labels_right
  exact (OLe.bind (labels_Right_ev _) (fun _ => (OLe.refl _)))
noncomputable def labels_Get_l17_c (a0 : List S49) (a1 : ByteArray) : Int → Option ((Int) ⊕ ((Unit) ⊕ (ByteArray))) := fun s7 =>
  bif (decide (s7 < (a0.length : Int))) then
  (Option.bind (ix a0 s7) fun (x20 : S49) =>
    bif (x20.f0.toList == a1.toList) then
    (some (Sum.inr (Sum.inr x20.f1)))
    else
    (some (Sum.inl (IntKind.wrap .i64 (s7 + 1)))))
  else
  (some (Sum.inr (Sum.inl ())))
theorem labels_Get_l17_ev (a0 : List S49) (a1 : ByteArray) (s7 : Int) : OLe (labels_Get_l17_c a0 a1 s7) (labels_Get_l17 a0 a1 s7) := by
  unfold labels_Get_l17_c labels_Get_l17
  exact (OLe.cond (OLe.bind (OLe.refl _) (fun _ => (OLe.cond (OLe.refl _) (OLe.refl _)))) (OLe.refl _))
noncomputable def labels_Get_c (a0 : List S49) (a1 : ByteArray) : Option ByteArray :=
  Option.bind (loopF 1000000 (labels_Get_l17_c a0 a1) 0) fun (r5 : (Unit) ⊕ (ByteArray)) =>
  match r5 with
  | Sum.inl r13 => some (⟨#[]⟩ : ByteArray)
  | Sum.inr v30 => some v30
theorem labels_Get_ev (a0 : List S49) (a1 : ByteArray) : OLe (labels_Get_c a0 a1) (labels_Get a0 a1) := by
  unfold labels_Get_c labels_Get
  exact (OLe.bind (OLe.loop (fun _ => labels_Get_l17_ev _ _ _)) (fun j => by cases j with | inl a => exact (OLe.refl _) | inr b => exact (OLe.refl _)))
noncomputable def slices_Index_l17_c (a0 : List ByteArray) (a1 : ByteArray) : Int → Option ((Int) ⊕ ((Unit) ⊕ (Int))) := fun s7 =>
  bif (decide (s7 < (a0.length : Int))) then
  (Option.bind (ix a0 s7) fun (x20 : ByteArray) =>
    bif (a1.toList == x20.toList) then
    (some (Sum.inr (Sum.inr s7)))
    else
    (some (Sum.inl (IntKind.wrap .i64 (s7 + 1)))))
  else
  (some (Sum.inr (Sum.inl ())))
theorem slices_Index_l17_ev (a0 : List ByteArray) (a1 : ByteArray) (s7 : Int) : OLe (slices_Index_l17_c a0 a1 s7) (slices_Index_l17 a0 a1 s7) := by
  unfold slices_Index_l17_c slices_Index_l17
  exact (OLe.cond (OLe.bind (OLe.refl _) (fun _ => (OLe.cond (OLe.refl _) (OLe.refl _)))) (OLe.refl _))
noncomputable def slices_Index_c (a0 : List ByteArray) (a1 : ByteArray) : Option Int :=
  Option.bind (loopF 1000000 (slices_Index_l17_c a0 a1) 0) fun (r5 : (Unit) ⊕ (Int)) =>
  match r5 with
  | Sum.inl r13 => some (-1)
  | Sum.inr v29 => some v29
theorem slices_Index_ev (a0 : List ByteArray) (a1 : ByteArray) : OLe (slices_Index_c a0 a1) (slices_Index a0 a1) := by
  unfold slices_Index_c slices_Index
  exact (OLe.bind (OLe.loop (fun _ => slices_Index_l17_ev _ _ _)) (fun j => by cases j with | inl a => exact (OLe.refl _) | inr b => exact (OLe.refl _)))
noncomputable def slices_Contains_c (a0 : List ByteArray) (a1 : ByteArray) : Option Bool :=
  Option.bind (slices_Index_c a0 a1) fun (y1 : Int) =>
  some (decide (y1 ≥ 0))
theorem slices_Contains_ev (a0 : List ByteArray) (a1 : ByteArray) : OLe (slices_Contains_c a0 a1) (slices_Contains a0 a1) := by
  unfold slices_Contains_c slices_Contains
  exact (OLe.bind (slices_Index_ev _ _) (fun _ => (OLe.refl _)))
noncomputable def labels_pick_l28_c (a0 : List S49) (a1 : Bool) (a2 : List ByteArray) : ((List S49) × Int) → Option (((List S49) × Int) ⊕ ((List S49))) := fun s11 =>
  bif (decide (s11.2 < (a0.length : Int))) then
  (Option.bind (ix a0 s11.2) fun (x31 : S49) =>
    Option.bind (slices_Contains_c a2 x31.f0) fun (y40 : Bool) =>
    Option.bind (bif (y40 == a1) then
      (Option.bind (app s11.1 [x31]) fun (zs56 : List S49) =>
        some zs56)
      else
      (some s11.1)) fun (j42 : (List S49)) =>
    some (Sum.inl (j42, (IntKind.wrap .i64 (s11.2 + 1)))))
  else
  (some (Sum.inr s11.1))
theorem labels_pick_l28_ev (a0 : List S49) (a1 : Bool) (a2 : List ByteArray) (s11 : (List S49) × Int) : OLe (labels_pick_l28_c a0 a1 a2 s11) (labels_pick_l28 a0 a1 a2 s11) := by
  unfold labels_pick_l28_c labels_pick_l28
  exact (OLe.cond (OLe.bind (OLe.refl _) (fun _ => (OLe.bind (slices_Contains_ev _ _) (fun _ => (OLe.bind (OLe.cond (OLe.bind (OLe.refl _) (fun _ => (OLe.refl _))) (OLe.refl _)) (fun _ => (OLe.refl _))))))) (OLe.refl _))
noncomputable def labels_pick_c (a0 : List S49) (a1 : Bool) (a2 : List ByteArray) : Option (List S49) :=
  Option.bind (loopF 1000000 (labels_pick_l28_c a0 a1 a2) ([], 0)) fun (r9 : (List S49)) =>
  some r9
theorem labels_pick_ev (a0 : List S49) (a1 : Bool) (a2 : List ByteArray) : OLe (labels_pick_c a0 a1 a2) (labels_pick a0 a1 a2) := by
  unfold labels_pick_c labels_pick
  exact (OLe.bind (OLe.loop (fun _ => labels_pick_l28_ev _ _ _ _)) (fun _ => (OLe.refl _)))
noncomputable def labels_quoted_c (a0 : ByteArray) : Option ByteArray := labels_quoted a0
theorem labels_quoted_ev (a0 : ByteArray) : OLe (labels_quoted_c a0) (labels_quoted a0) := OLe.refl _
noncomputable def strings_Join_c (a0 : List ByteArray) (a1 : ByteArray) : Option ByteArray :=
  bif ((a0.length : Int) == 0) then
  (some (⟨#[]⟩ : ByteArray))
  else
  (bif ((a0.length : Int) == 1) then
    (Option.bind (ix a0 0) fun (x3 : ByteArray) =>
      some x3)
    else
    (none))
theorem strings_Join_ev (a0 : List ByteArray) (a1 : ByteArray) : OLe (strings_Join_c a0 a1) (strings_Join a0 a1) := by
  unfold strings_Join_c strings_Join
  exact (OLe.cond (OLe.refl _) (OLe.cond (OLe.bind (OLe.refl _) (fun _ => (OLe.refl _))) (OLe.refl _)))
noncomputable def labels_Print_l72_c (j8 : ByteArray × (List S49)) : ((List ByteArray) × Int) → Option (((List ByteArray) × Int) ⊕ ((List ByteArray))) := fun s55 =>
  bif (decide (s55.2 < (j8.2.length : Int))) then
  (Option.bind (ix j8.2 s55.2) fun (x75 : S49) =>
    Option.bind (sadd x75.f0 (⟨#[61]⟩ : ByteArray)) fun (s84 : ByteArray) =>
    Option.bind (labels_quoted_c x75.f1) fun (y86 : ByteArray) =>
    Option.bind (sadd s84 y86) fun (s88 : ByteArray) =>
    Option.bind (app s55.1 [s88]) fun (zs94 : List ByteArray) =>
    some (Sum.inl (zs94, (IntKind.wrap .i64 (s55.2 + 1)))))
  else
  (some (Sum.inr s55.1))
theorem labels_Print_l72_ev (j8 : ByteArray × (List S49)) (s55 : (List ByteArray) × Int) : OLe (labels_Print_l72_c j8 s55) (labels_Print_l72 j8 s55) := by
  unfold labels_Print_l72_c labels_Print_l72
  exact (OLe.cond (OLe.bind (OLe.refl _) (fun _ => (OLe.bind (OLe.refl _) (fun _ => (OLe.bind (labels_quoted_ev _) (fun _ => (OLe.bind (OLe.refl _) (fun _ => (OLe.bind (OLe.refl _) (fun _ => (OLe.refl _))))))))))) (OLe.refl _))
noncomputable def labels_Print_c (a0 : List S49) : Option (ByteArray × Int) :=
  Option.bind (labels_right_c a0) fun (y1 : Int) =>
  bif (y1 != 0) then
  (some ((⟨#[]⟩ : ByteArray), y1))
  else
  (Option.bind (labels_Get_c a0 (⟨#[95, 95, 110, 97, 109, 101, 95, 95]⟩ : ByteArray)) fun (y4 : ByteArray) =>
    Option.bind (labels_Metric_c y4) fun (y6 : Bool) =>
    Option.bind (bif y6 then
      (Option.bind (labels_pick_c a0 false [(⟨#[95, 95, 110, 97, 109, 101, 95, 95]⟩ : ByteArray)]) fun (y25 : (List S49)) =>
        some (y4, y25))
      else
      (some ((⟨#[]⟩ : ByteArray), a0))) fun (j8 : ByteArray × (List S49)) =>
    bif ((!(j8.1.toList == (⟨#[]⟩ : ByteArray).toList)) && ((j8.2.length : Int) == 0)) then
    (some (j8.1, 0))
    else
    (Option.bind (loopF 1000000 (labels_Print_l72_c j8) ([], 0)) fun (r53 : (List ByteArray)) =>
      Option.bind (sadd j8.1 (⟨#[123]⟩ : ByteArray)) fun (s100 : ByteArray) =>
      Option.bind (strings_Join_c r53 (⟨#[44]⟩ : ByteArray)) fun (y102 : ByteArray) =>
      Option.bind (sadd s100 y102) fun (s104 : ByteArray) =>
      Option.bind (sadd s104 (⟨#[125]⟩ : ByteArray)) fun (s106 : ByteArray) =>
      some (s106, 0)))
theorem labels_Print_ev (a0 : List S49) : OLe (labels_Print_c a0) (labels_Print a0) := by
  unfold labels_Print_c labels_Print
  exact (OLe.bind (labels_right_ev _) (fun _ => (OLe.cond (OLe.refl _) (OLe.bind (labels_Get_ev _ _) (fun _ => (OLe.bind (labels_Metric_ev _) (fun _ => (OLe.bind (OLe.cond (OLe.bind (labels_pick_ev _ _ _) (fun _ => (OLe.refl _))) (OLe.refl _)) (fun _ => (OLe.cond (OLe.refl _) (OLe.bind (OLe.loop (fun _ => labels_Print_l72_ev _ _)) (fun _ => (OLe.bind (OLe.refl _) (fun _ => (OLe.bind (strings_Join_ev _ _) (fun _ => (OLe.bind (OLe.refl _) (fun _ => (OLe.bind (OLe.refl _) (fun _ => (OLe.refl _)))))))))))))))))))))
noncomputable def tocsinlaw04_awake_c : Option Bool :=
  Option.bind (labels_Parse_c (⟨#[117, 112, 32, 123, 32, 106, 111, 98, 32, 61, 32, 34, 120, 34, 32, 44, 32, 125]⟩ : ByteArray)) fun (y1 : (List S49) × Int × Int) =>
  Option.bind (labels_Print_c y1.1) fun (y10 : ByteArray × Int) =>
  Option.bind (bif (y1.2.1 == 0) then
    (bif (y10.2 == 0) then
      (bif (y10.1.toList == (⟨#[117, 112, 123, 106, 111, 98, 61, 34, 120, 34, 125]⟩ : ByteArray).toList) then
        (Option.bind (labels_Get_c y1.1 (⟨#[106, 111, 98]⟩ : ByteArray)) fun (y20 : ByteArray) =>
          bif (y20.toList == (⟨#[120]⟩ : ByteArray).toList) then
          (Option.bind (labels_Hash_c []) fun (y23 : Int) =>
            some (y23 == 14695981039346656037))
          else
          (some false))
        else
        (some false))
      else
      (some false))
    else
    (some false)) fun (j12 : Bool) =>
  some j12
theorem tocsinlaw04_awake_ev  : OLe (tocsinlaw04_awake_c ) (tocsinlaw04_awake ) := by
  unfold tocsinlaw04_awake_c tocsinlaw04_awake
  exact (OLe.bind (labels_Parse_ev _) (fun _ => (OLe.bind (labels_Print_ev _) (fun _ => (OLe.bind (OLe.cond (OLe.cond (OLe.cond (OLe.bind (labels_Get_ev _ _) (fun _ => (OLe.cond (OLe.bind (labels_Hash_ev _) (fun _ => (OLe.refl _))) (OLe.refl _)))) (OLe.refl _)) (OLe.refl _)) (OLe.refl _)) (fun _ => (OLe.refl _)))))))
end Go.Proofs.YtnlkfajnaelnnaaGreatDoor

namespace Go.Proofs.YtnlkfajnaelnnaaGreatDoor
open Go.GB
theorem awake04 : tocsinlaw04_awake = some true := tocsinlaw04_awake_ev _ (by kernel_rfl)
end Go.Proofs.YtnlkfajnaelnnaaGreatDoor

/- Plain laws: LabelsOrder. -/
set_option linter.unusedVariables false
set_option maxRecDepth 100000
namespace Go.Proofs.YtnlkfajnaelnnaaGreatDoor
open Go.GB Go.Lib
theorem S49_ext {x y : S49} : ((x.f0.toList == y.f0.toList) && (x.f1.toList == y.f1.toList)) = true ↔ x = y := by
  rw [Bool.and_eq_true, toList_inj, toList_inj]
  constructor
  · rintro ⟨h1, h2⟩
    cases x; cases y; simp only at h1 h2; rw [h1, h2]
  · rintro rfl; exact ⟨rfl, rfl⟩
theorem same_eq (a b : List S49) (ha : a.length < 4294967296) : ∃ r, tocsinlaw04_same a b = some r ∧ (r = true ↔ a = b) := by
  unfold tocsinlaw04_same
  by_cases hl : a.length = b.length
  · rw [show ((a.length : Int) != (b.length : Int)) = false by rw [hl]; simp, cond_false]
    have key : ∀ d i : Nat, a.length - i = d → i ≤ a.length → ∃ r : Unit ⊕ Bool, loopO (tocsinlaw04_same_l18 a b) (i : Int) = some r ∧ ((r = .inl () ∧ a.drop i = b.drop i) ∨ (r = .inr false ∧ a.drop i ≠ b.drop i)) := by
      intro d
      induction d with
      | zero =>
        intro i hd hi
        refine ⟨.inl (), loopO_done (by
          unfold tocsinlaw04_same_l18
          rw [show decide ((i : Int) < (a.length : Int)) = false from decide_eq_false (by omega)]; rfl), .inl ⟨rfl, ?_⟩⟩
        rw [List.drop_of_length_le (by omega), List.drop_of_length_le (by omega)]
      | succ d ih =>
        intro i hd hi
        have h1 : i < a.length := by omega
        have h2 : i < b.length := by omega
        have hx : ix a (i : Int) = some a[i] := by rw [ix_nat, List.getElem?_eq_getElem h1]
        have hy : ix b (i : Int) = some b[i] := by rw [ix_nat, List.getElem?_eq_getElem h2]
        rw [List.drop_eq_getElem_cons h1, List.drop_eq_getElem_cons h2]
        cases he : ((a[i].f0.toList == b[i].f0.toList) && (a[i].f1.toList == b[i].f1.toList)) with
        | true =>
          obtain ⟨r, hr, hr'⟩ := ih (i + 1) (by omega) (by omega)
          refine ⟨r, ?_, ?_⟩
          · rw [loopO_step (s' := ((i + 1 : Nat) : Int)) (by
              unfold tocsinlaw04_same_l18
              rw [show decide ((i : Int) < (a.length : Int)) = true from decide_eq_true (by omega)]
              simp only [cond_true, hx, hy, Option.bind_some, he, Bool.not_true, cond_false, wrap_up (show i < 4294967296 by omega)])]
            exact hr
          · rw [S49_ext.1 he]
            rcases hr' with ⟨q1, q2⟩ | ⟨q1, q2⟩
            · exact .inl ⟨q1, by rw [q2]⟩
            · exact .inr ⟨q1, fun e => q2 (List.cons.inj e).2⟩
        | false =>
          refine ⟨.inr false, loopO_done (by
            unfold tocsinlaw04_same_l18
            rw [show decide ((i : Int) < (a.length : Int)) = true from decide_eq_true (by omega)]
            simp only [cond_true, hx, hy, Option.bind_some, he, Bool.not_false]), .inr ⟨rfl, fun e => ?_⟩⟩
          rw [S49_ext.2 (List.cons.inj e).1] at he; cases he
    obtain ⟨r, hr, hr'⟩ := key a.length 0 (by omega) (by omega)
    rw [show ((0 : Nat) : Int) = 0 from rfl] at hr
    rw [hr, Option.bind_some]
    rw [List.drop_zero, List.drop_zero] at hr'
    rcases hr' with ⟨rfl, e⟩ | ⟨rfl, e⟩
    · exact ⟨true, rfl, by simp [e]⟩
    · exact ⟨false, rfl, by simp [e]⟩
  · rw [show ((a.length : Int) != (b.length : Int)) = true by simp; omega, cond_true]
    exact ⟨false, rfl, by simp; intro e; exact hl (by rw [e])⟩
theorem order_core (a b c : List S49) (ha : a.length ≤ 2147483648) (hb : b.length ≤ 2147483648) (hc : c.length ≤ 2147483648) (hs : ∀ x ∈ a, x.f0.size + x.f1.size < 2147483648) :
    tocsinlaw04_LabelsOrder a b c = some true := by
  obtain ⟨r, hr, hr'⟩ := same_eq a b (by omega)
  obtain ⟨hh, h, hv⟩ := hash_eq a (by omega) hs
  unfold tocsinlaw04_LabelsOrder
  rw [compare_eq a b ha, compare_eq b c hb, compare_eq a c ha, compare_eq b a hb, refCompare_eq a b ha, hr, ← hh, hv, awake04, cmpL_swap a b]
  have h1 := cmpL_range a b
  have h2 := cmpL_range b c
  have h3 := cmpL_range a c
  have hz : (cmpL a b == 0) = r := by
    by_cases k : a = b
    · rw [hr'.2 k, k, cmpL_self]; rfl
    · have : r = false := by cases r with
        | true => exact absurd (hr'.1 rfl) k
        | false => rfl
      rw [this]; simp only [beq_eq_false_iff_ne]; exact fun e => k (cmpL_zero e)
  have hw : IntKind.wrap .i64 (0 - cmpL a b) = - cmpL a b := by rw [wrap64 (by omega) (by omega)]; omega
  simp only [Option.bind_some, bne_self_eq_false, cond_false, hw, hz, beq_self_eq_true, Bool.not_true]
  have key : ((((decide (cmpL a b ≤ 0)) && (decide (cmpL b c ≤ 0))) && (decide (cmpL a c > 0))) || (((decide (cmpL a b < 0)) && (decide (cmpL b c ≤ 0))) && (decide (cmpL a c ≥ 0)))) = false := by
    have t1 : cmpL a b ≤ 0 → cmpL b c ≤ 0 → cmpL a c ≤ 0 ∧ (cmpL a b < 0 → cmpL a c < 0) := by
      intro p q
      by_cases e1 : cmpL a b = 0
      · have := cmpL_zero e1
        subst this
        exact ⟨q, fun z => by omega⟩
      · by_cases e2 : cmpL b c = 0
        · have := cmpL_zero e2
          subst this
          exact ⟨p, fun z => z⟩
        · have := cmpL_trans (a := a) (b := b) (c := c) (by omega) (by omega)
          omega
    by_cases p : cmpL a b ≤ 0
    · by_cases q : cmpL b c ≤ 0
      · have := t1 p q
        rw [show decide (cmpL a c > 0) = false from decide_eq_false (by omega)]
        by_cases p' : cmpL a b < 0
        · rw [show decide (cmpL a c ≥ 0) = false from decide_eq_false (by have := this.2 p'; omega)]; simp
        · rw [show decide (cmpL a b < 0) = false from decide_eq_false p']; simp
      · rw [show decide (cmpL b c ≤ 0) = false from decide_eq_false q]; simp
    · rw [show decide (cmpL a b ≤ 0) = false from decide_eq_false p, show decide (cmpL a b < 0) = false from decide_eq_false (by omega)]; simp
  rw [key]; rfl
end Go.Proofs.YtnlkfajnaelnnaaGreatDoor

set_option linter.unusedVariables false
namespace Go.Proofs.YtnlkfajnaelnnaaGreatDoor
open Go.GB Go.Lib
theorem tocsinlaw04_LabelsOrder_true {I : Imm} {c0 c1 c2 : List Value} {n0 n1 n2 : Nat} (a0 a1 a2 : List S49) (h0 : (Kd.sl kS49).R I a0 c0) (h1 : (Kd.sl kS49).R I a1 c1) (h2 : (Kd.sl kS49).R I a2 c2)
    (w0 : wSl wS49 a0 n0) (w1 : wSl wS49 a1 n1) (w2 : wSl wS49 a2 n2) (hn : n0 + n1 + n2 ≤ 1048576) : tocsinlaw04_LabelsOrder a0 a1 a2 = some true :=
  order_core a0 a1 a2 (by have := w0.len; omega) (by have := w1.len; omega) (by have := w2.len; omega) (fun x hx => by
    obtain ⟨a, ⟨m0, m1, hm, e0, e1⟩, ha⟩ := w0.mem hx
    unfold wStr at e0 e1
    omega)
end Go.Proofs.YtnlkfajnaelnnaaGreatDoor
