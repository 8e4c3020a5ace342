/- Plain laws of chapter 4: what is lent and kept; what is spoilt. -/
import Derived.Test.YtnlkfajnaelnnaaGreatDoorM1u
import Derived.Test.YtnlkfajnaelnnaaGreatDoorRows
import Derived.Deep.Slices
import Derived.Below
import Derived.Test.YtnlkfajnaelnnaaGreatDoorGB10u
import Derived.Test.YtnlkfajnaelnnaaGreatDoorL1u
import Derived.Lib.ValidLaws
import Derived.Lib.Bytealg
/- From data that are read to what the walks ask: rows. -/
set_option linter.unusedVariables false
namespace Go.GB
open Go Go.RowKit
open Go.Proofs.YtnlkfajnaelnnaaGreatDoor.Rows (uptoBulk uptoBulkAll)

def immOf (W : World) : Imm := ⟨fun b => W.heap[b]?, W.os, W.tape, W.output, 0⟩
theorem holds_immOf (W : World) : Holds (immOf W) [] W := ⟨fun _ _ h => h, by simp, by simp, by simp, rfl, rfl, rfl, Nat.zero_le _⟩
theorem below_of {I' : Imm} {L' : Own} {W W' : World} (h : Holds I' L' W') (hI : immOf W ≤ I') : Below W.heap.size W W' := by
  refine ⟨by rw [h.os, hI.os]; rfl, by rw [h.tape, hI.tape]; rfl, by rw [h.out, hI.out]; rfl, ?_, fun k hk => ?_⟩
  · rcases Nat.eq_zero_or_pos W.heap.size with h0 | h0
    · omega
    · have : W.heap[W.heap.size - 1]? = some (W.heap[W.heap.size - 1]'(by omega)) := Array.getElem?_eq_getElem _
      have := lt_of_heap (h.imm _ _ (hI.h _ _ this))
      omega
  · have : W.heap[k]? = some (W.heap[k]) := Array.getElem?_eq_getElem hk
    rw [this]; exact h.imm _ _ (hI.h _ _ this)
theorem imm_cell {W : World} {a : Addr} {v : Value} (h : W.cell? a = some v) : (immOf W).cell a = some v := h
theorem run_of_cells {W : World} {a : Addr} {n : Nat} {cs : List Value} (h : W.cells? 0 a n = some cs) : RunAt (immOf W) a cs := fun j v hj => by
  unfold World.cells? at h
  rw [if_pos (Nat.zero_le _)] at h
  have hl := mapM_some_length h
  have hj' : j < n := by have := (List.getElem?_eq_some_iff.1 hj).1; simpa [hl] using this
  have := mapM_some_get h j j (by simp [hj'])
  exact imm_cell (this.trans hj)

def Reads {α : Type} (P : Program) (T : TypeId) (d : Kd α) (w : α → Nat → Prop) : Prop := ∀ {H : Type} {enc : TypeId × Value → H} {W : World} {spare : Nat → Bool} {held : Bool} {fuel : Nat} {cs : List Value} {x : DataW H × List MemPlace},
  DataW.trod enc P W 0 spare held fuel T cs = some x → uptoBulk x.1 ≤ 1048576 → ∃ y, d.R (immOf W) y cs ∧ w y (uptoBulk x.1)
theorem reads_str {P : Program} {T : TypeId} (h : P.underlying T = some .string) : Reads P T Kd.str wStr := fun ht _ => by
  obtain ⟨n, rfl, rfl, _⟩ := DataW.trod_string h ht
  exact ⟨n, rfl, by simp [uptoBulk, wStr]⟩
theorem bulk_pos {H : Type} (d : DataW H) : 1 ≤ uptoBulk d := by
  cases d with
  | lit l => cases l <;> simp [uptoBulk]
  | _ => simp [uptoBulk]
theorem bulkAll_ge {H : Type} : ∀ (l : List (DataW H)), l.length ≤ uptoBulkAll l
  | [] => by simp
  | d :: r => by have := bulk_pos d; have := bulkAll_ge r; simp only [uptoBulkAll, List.length_cons]; omega
theorem bulkAll_mem {H : Type} {d : DataW H} : ∀ {l : List (DataW H)}, d ∈ l → uptoBulk d ≤ uptoBulkAll l
  | [], h => by cases h
  | e :: r, h => by
    simp only [uptoBulkAll]
    rcases List.mem_cons.1 h with rfl | h
    · omega
    · have := bulkAll_mem h; omega
theorem choose_list {α : Type} {p : Nat → α → Prop} : ∀ (n : Nat), (∀ i, i < n → ∃ y, p i y) → ∃ xs : List α, xs.length = n ∧ ∀ i x, xs[i]? = some x → p i x
  | 0, _ => ⟨[], rfl, fun i x h => by simp at h⟩
  | m + 1, key => by
    obtain ⟨xs, hxl, hx⟩ := choose_list m (fun i hi => key i (by omega))
    obtain ⟨y, hy⟩ := key m (by omega)
    refine ⟨xs ++ [y], by simp [hxl], fun i x h => ?_⟩
    rcases Nat.lt_or_ge i m with hi | hi
    · rw [List.getElem?_append_left (by omega)] at h; exact hx i x h
    · rw [List.getElem?_append_right (by omega), hxl] at h
      have hi0 : i - m = 0 := by have := (List.getElem?_eq_some_iff.1 h).1; simpa using this
      rw [hi0] at h
      simp only [List.getElem?_cons_zero, Option.some.injEq] at h
      subst h
      rw [show i = m from by omega]
      exact hy
theorem wSl_of {α H : Type} {w : α → Nat → Prop} : ∀ (xs : List α) (es : List (DataW H)), xs.length = es.length → (∀ (i : Nat) (x : α) (e : DataW H), xs[i]? = some x → es[i]? = some e → w x (uptoBulk e)) → wSl w xs (uptoBulkAll es)
  | [], _, _, _ => trivial
  | x :: r, [], h, _ => by simp at h
  | x :: r, e :: es, h, hw => ⟨uptoBulk e, uptoBulkAll es, hw 0 x e rfl rfl, wSl_of r es (by simpa using h) (fun i x' e' h1 h2 => hw (i + 1) x' e' (by simpa using h1) (by simpa using h2)), by simp [uptoBulkAll], bulk_pos e⟩
theorem reads_slice {α : Type} {P : Program} {T e : TypeId} {d : Kd α} {w : α → Nat → Prop} (hu : P.underlying T = some (.slice e)) (hn : P.cellsOf e = d.n) (hr : Reads P e d w) : Reads P T (Kd.sl d) (wSl w) := by
  intro H enc W spare held fuel cs x ht hb
  rcases DataW.trod_slice hu ht with ⟨rfl, rfl⟩ | ⟨a, len, cap, elems, rest, n, rfl, rfl, rfl, _, hlc, hcm, hel, hat, _, _⟩
  · exact ⟨[], ⟨none, 0, rfl, RepS.nil _ _⟩, trivial⟩
  · simp only [uptoBulk] at hb
    have hlen := bulkAll_ge (elems.map (·.1))
    rw [List.length_map, hel] at hlen
    have key : ∀ i, i < len → ∃ y, (∃ cs', d.R (immOf W) y cs' ∧ RunAt (immOf W) (a.add (i * d.n)) cs') ∧ ∀ e, (elems.map (·.1))[i]? = some e → w y (uptoBulk e) := fun i hi => by
      have h1 := hat i hi
      have hie : i < elems.length := by omega
      rw [List.getElem?_eq_getElem hie] at h1
      simp only [Option.bind_eq_some_iff] at h1
      obtain ⟨cs', h2, h3⟩ := h1
      obtain ⟨y, hy, hw⟩ := hr h3 (by
        have := bulkAll_mem (l := elems.map (·.1)) (List.mem_map_of_mem (List.getElem_mem hie))
        omega)
      refine ⟨y, ⟨cs', hy, ?_⟩, fun e he => ?_⟩
      · rw [← hn]
        exact run_of_cells h2
      · rw [List.getElem?_map, List.getElem?_eq_getElem hie] at he
        cases he; exact hw
    have hex := choose_list (p := fun i y => (∃ cs', d.R (immOf W) y cs' ∧ RunAt (immOf W) (a.add (i * d.n)) cs') ∧ ∀ e, (elems.map (·.1))[i]? = some e → w y (uptoBulk e)) len key
    obtain ⟨xs, hxl, hx⟩ := hex
    refine ⟨xs, ⟨some a, cap, by rw [hxl], by omega, by unfold maxLen'; omega, fun i x h => ?_⟩, ?_⟩
    · obtain ⟨⟨cs', h1, h2⟩, _⟩ := hx i x h
      exact ⟨a, cs', rfl, h1, h2⟩
    · exact (wSl_of xs (elems.map (·.1)) (by simp [hxl, hel]) (fun i x e h1 h2 => (hx i x h1).2 e h2)).le (by simp only [uptoBulk]; omega)
theorem pairR {α β : Type} {a : Kd α} {b : Kd β} {I : Imm} {x : α} {y : β} {cs : List Value} {o n m : Nat} (h0 : a.R I x ((cs.drop o).take n)) (h1 : b.R I y (cs.drop m)) (hm : m = o + n) : (Kd.pair a b).R I (x, y) (cs.drop o) := by
  subst hm
  exact ⟨(cs.drop o).take n, (cs.drop o).drop n, (List.take_append_drop _ _).symm, h0, by rw [List.drop_drop]; exact h1⟩
theorem lastR {α : Type} {a : Kd α} {I : Imm} {x : α} {cs : List Value} {o n : Nat} (h : a.R I x ((cs.drop o).take n)) (hl : cs.length = o + n) : a.R I x (cs.drop o) := by
  rwa [List.take_of_length_le (by rw [List.length_drop]; omega)] at h
def fieldD (P : Program) (T : TypeId) (i : Nat) : Field := (P.fieldsOf T).getD i default
/-- A field of a struct that is read. -/
theorem field_read {α : Type} {H : Type} {enc : TypeId × Value → H} {P : Program} {W : World} {spare : Nat → Bool} {held : Bool} {m : Nat} {T t : TypeId} {d : Kd α} {w : α → Nat → Prop} {cs : List Value} {xs : List (DataW H × List MemPlace)} {x : DataW H × List MemPlace} {i o n : Nat}
    (hf : ∀ (i : Nat) (f : Field), (P.fieldsOf T)[i]? = some f → DataW.trod enc P W 0 spare held m f.type ((cs.drop f.offset).take (P.cellsOf f.type)) = xs[i]?)
    (hx : xs[i]? = some x) (h1 : (P.fieldsOf T)[i]? = some (fieldD P T i)) (h2 : (fieldD P T i).type = t) (h3 : (fieldD P T i).offset = o) (h4 : P.cellsOf t = n) (hr : Reads P t d w) (hb : uptoBulk x.1 ≤ 1048576) : ∃ y, d.R (immOf W) y ((cs.drop o).take n) ∧ w y (uptoBulk x.1) := by
  have := hf i _ h1
  rw [hx, h2, h3, h4] at this
  exact hr this hb
theorem calls_of {P : Program} {f : FuncId} {args : Array Value} {W : World} {b : Value} (h : CallsTo P f args (immOf W) [] (fun v I' L' => v = b ∧ [] = L')) : Calls P f args W fun e W' => e = .returned b ∧ Below W.heap.size W W' :=
  (h W (holds_immOf W)).mono fun e W' ⟨v, I', L', he, hI, hh, hv, _⟩ => ⟨by rw [he, hv], below_of hh hI⟩
end Go.GB

/- Functions that can be run out: twins with a bound on rounds. -/
set_option linter.unusedVariables false
namespace Go.GB
def loopF {σ ρ : Type} : Nat → (σ → Option (σ ⊕ ρ)) → σ → Option ρ
  | 0, _, _ => none
  | n + 1, body, s => match body s with
    | none => none
    | some (.inr r) => some r
    | some (.inl s') => loopF n body s'
def OLe {α : Type} (x y : Option α) : Prop := ∀ r, x = some r → y = some r
theorem OLe.refl {α : Type} (x : Option α) : OLe x x := fun _ h => h
theorem OLe.bind {α β : Type} {x y : Option α} {f g : α → Option β} (h : OLe x y) (hf : ∀ a, OLe (f a) (g a)) : OLe (Option.bind x f) (Option.bind y g) := fun r hr => by
  obtain ⟨a, ha, hb⟩ := bind_some hr
  rw [h a ha]; exact hf a r hb
theorem OLe.cond {α : Type} {b : Bool} {x y x' y' : Option α} (h : OLe x x') (h' : OLe y y') : OLe (bif b then x else y) (bif b then x' else y') := by
  cases b
  · exact h'
  · exact h
theorem loopF_R {σ ρ : Type} {body body' : σ → Option (σ ⊕ ρ)} (h : ∀ s, OLe (body s) (body' s)) : ∀ (n : Nat) (s : σ) (r : ρ), loopF n body s = some r → LoopR body' s r
  | 0, _, _, hr => by cases hr
  | n + 1, s, r, hr => by
    unfold loopF at hr
    cases hb : body s with
    | none => rw [hb] at hr; cases hr
    | some o =>
      rw [hb] at hr
      cases o with
      | inl s' => exact .step (h s _ hb) (loopF_R h n s' r hr)
      | inr r' => cases hr; exact .done (h s _ hb)
theorem OLe.loop {σ ρ : Type} {body body' : σ → Option (σ ⊕ ρ)} {n : Nat} {s : σ} (h : ∀ s, OLe (body s) (body' s)) : OLe (loopF n body s) (loopO body' s) := fun r hr => loopO_of (loopF_R h n s r hr)

/-! ### Loops that go up -/
end Go.GB

/- What plain functions come to: a calculus for 'it answers, and its answer is ..'. -/
set_option linter.unusedVariables false
namespace Go.GB
theorem wrap_up {i : Nat} (h : i < 4294967296) : IntKind.wrap .i64 ((i : Int) + 1) = ((i + 1 : Nat) : Int) := by rw [wrap64 (by omega) (by omega)]; omega
theorem ix_nat {α : Type} (xs : List α) (i : Nat) : ix xs (i : Int) = xs[i]? := by simp [ix]
theorem size_zero_iff {s : ByteArray} : (s.toList == (⟨#[]⟩ : ByteArray).toList) = decide (s.size = 0) := by
  rw [ByteArray.toList_eq, ByteArray.toList_eq]
  obtain ⟨⟨l⟩⟩ := s
  cases l <;> rfl
theorem toList_inj {a b : ByteArray} : (a.toList == b.toList) = true ↔ a = b := by
  rw [ByteArray.toList_eq, ByteArray.toList_eq]
  obtain ⟨⟨x⟩⟩ := a
  obtain ⟨⟨y⟩⟩ := b
  simp
end Go.GB

/- Plain laws, base: loops that are alike; searches; words of bits. -/
set_option linter.unusedVariables false
namespace Go.GB
/-- One round. -/
theorem loopO_step {σ ρ : Type} {b : σ → Option (σ ⊕ ρ)} {s s' : σ} (h : b s = some (.inl s')) : loopO b s = loopO b s' := by rw [loopO_eq, h]; rfl
theorem loopO_done {σ ρ : Type} {b : σ → Option (σ ⊕ ρ)} {s : σ} {r : ρ} (h : b s = some (.inr r)) : loopO b s = some r := by rw [loopO_eq, h]; rfl
/-- A search that goes up: the first place at which there is something to tell. -/
theorem up_find {ρ : Type} {body : Int → Option (Int ⊕ (Unit ⊕ ρ))} {n : Nat} (p : Nat → Option ρ) (h : ∀ i : Nat, i < n → body i = some (match p i with | some r => .inr (.inr r) | none => .inl ((i + 1 : Nat) : Int))) (he : body n = some (.inr (.inl ()))) :
    loopO body 0 = some (match (List.range n).findSome? p with | some r => .inr r | none => .inl ()) := by
  have key : ∀ d i : Nat, i + d = n → loopO body i = some (match (List.range' i d).findSome? p with | some r => .inr r | none => .inl ()) := by
    intro d
    induction d with
    | zero =>
      intro i hi
      have : i = n := by omega
      subst this
      simp [loopO_done he]
    | succ d ih =>
      intro i hi
      have h1 := h i (by omega)
      rw [List.range'_succ, List.findSome?_cons]
      cases hp : p i with
      | some r => rw [hp] at h1; rw [loopO_done h1]
      | none => rw [hp] at h1; rw [loopO_step h1]; exact ih (i + 1) (by omega)
  have := key n 0 (by omega)
  rw [List.range_eq_range']
  exact this
/-- All of a list, by a loop that goes up. -/
theorem up_all {body : Int → Option (Int ⊕ (Unit ⊕ Bool))} {n : Nat} (q : Nat → Bool) (h : ∀ i : Nat, i < n → body i = some (bif q i then .inl ((i + 1 : Nat) : Int) else .inr (.inr false))) (he : body n = some (.inr (.inl ()))) :
    loopO body 0 = some (if (List.range n).all q then .inl () else .inr false) := by
  rw [up_find (fun i => if q i then none else some false) (fun i hi => by rw [h i hi]; cases q i <;> rfl) he]
  congr 1
  by_cases ha : (List.range n).all q = true
  · rw [if_pos ha]
    have : (List.range n).findSome? (fun i => if q i then none else some false) = none := by
      rw [List.findSome?_eq_none_iff]
      intro i hi
      rw [if_pos (List.all_eq_true.1 ha i hi)]
    rw [this]
  · rw [if_neg ha]
    have hx : (List.range n).all q = false := by simpa using ha
    rw [List.all_eq_false] at hx
    obtain ⟨i, hi, hq⟩ := hx
    cases hf : (List.range n).findSome? (fun i => if q i then none else some false) with
    | none =>
      rw [List.findSome?_eq_none_iff] at hf
      have := hf i hi
      rw [if_neg hq] at this; cases this
    | some b =>
      obtain ⟨j, _, hj⟩ := List.exists_of_findSome?_eq_some hf
      split at hj <;> cases hj
      rfl
theorem wrapU64 {x : Int} (h : 0 ≤ x) (h' : x < 18446744073709551616) : IntKind.wrap .u64 x = x := by
  unfold IntKind.wrap
  simp [IntKind.bits, IntKind.signed]
  omega
theorem and63 : ∀ c : Fin 256, bitAnd .u8 ((c.val : Nat) : Int) 63 = ((c.val % 64 : Nat) : Int) := by decide +kernel
theorem and192 : ∀ c : Fin 256, (bitAnd .u8 ((c.val : Nat) : Int) 192 != 128) = !(decide (c.val / 64 = 2)) := by decide +kernel
theorem and31 : ∀ c : Fin 256, bitAnd .i64 ((c.val : Nat) : Int) 31 = ((c.val % 32 : Nat) : Int) := by decide +kernel
theorem and15 : ∀ c : Fin 256, bitAnd .i64 ((c.val : Nat) : Int) 15 = ((c.val % 16 : Nat) : Int) := by decide +kernel
theorem and7 : ∀ c : Fin 256, bitAnd .i64 ((c.val : Nat) : Int) 7 = ((c.val % 8 : Nat) : Int) := by decide +kernel
theorem bx_at {s : ByteArray} {i : Nat} (h : i < s.size) : bx s (i : Int) = some (((s.data.toList.getD i 0).toNat : Nat) : Int) := by
  unfold bx
  rw [if_pos ⟨by omega, by omega⟩]
  unfold byteAt
  rw [Int.toNat_natCast]
  simp [List.getD_eq_getElem?_getD]
theorem size_list (s : ByteArray) : s.data.toList.length = s.size := by rw [Array.length_toList]; rfl
theorem nil_size (s : ByteArray) : (s.toList == (⟨#[]⟩ : ByteArray).toList) = decide (s.size = 0) := size_zero_iff
end Go.GB

/- Plain laws: the document's Utf8 is the library's. -/
set_option linter.unusedVariables false
set_option maxRecDepth 100000
namespace Go.Proofs.YtnlkfajnaelnnaaGreatDoor
open Go.GB Go.Lib
/-- The byte at a place, 0 behind the end. -/
def bat (s : ByteArray) (i : Nat) : Nat := (s.data.toList.getD i 0).toNat
theorem bat_lt (s : ByteArray) (i : Nat) : bat s i < 256 := UInt8.toNat_lt _
theorem bx_bat {s : ByteArray} {i : Nat} (h : i < s.size) : bx s (i : Int) = some ((bat s i : Nat) : Int) := bx_at h
theorem fin_and {P : Nat → Prop} (h : ∀ c : Fin 256, P c.val) {n : Nat} (hn : n < 256) : P n := h ⟨n, hn⟩
theorem l79_end {s : ByteArray} {i n least r0 : Nat} {r k : Nat} (h : n < k) (hk : k < 100) : loopO (tocsinref01_Utf8_l79 s (i : Int) ((n : Int), (least : Int), (r0 : Int))) ((r : Int), (k : Int)) = some (.inl (r : Int)) := by
  refine loopO_done ?_
  unfold tocsinref01_Utf8_l79
  rw [show decide (((r : Int), (k : Int)).2 ≤ ((n : Int), (least : Int), (r0 : Int)).1) = false from decide_eq_false (by show ¬ ((k : Int) ≤ (n : Int)); omega)]
  rfl
theorem l79_step {s : ByteArray} {i n least r0 : Nat} {r k : Nat} (hs : s.size < 4611686018427387904) (hi : i < s.size) (h : k ≤ n) (hn : n ≤ 3) (hr : r < 16777216) :
    tocsinref01_Utf8_l79 s (i : Int) ((n : Int), (least : Int), (r0 : Int)) ((r : Int), (k : Int)) =
      if i + k < s.size ∧ bat s (i + k) / 64 = 2 then some (.inl (((r * 64 + bat s (i + k) % 64 : Nat) : Int), ((k + 1 : Nat) : Int))) else some (.inr (.inr (.inr (.inr (.inr false))))) := by
  unfold tocsinref01_Utf8_l79
  simp only
  rw [show decide ((k : Int) ≤ (n : Int)) = true from decide_eq_true (by omega)]
  have e1 : IntKind.wrap .i64 ((i : Int) + (k : Int)) = ((i + k : Nat) : Int) := by rw [wrap64 (by omega) (by omega)]; omega
  simp only [cond_true, e1]
  by_cases hlt : i + k < s.size
  · rw [show decide (((i + k : Nat) : Int) ≥ (s.size : Int)) = false from decide_eq_false (by omega)]
    have hb := bat_lt s (i + k)
    have h1 : (bitAnd .u8 ((bat s (i + k) : Nat) : Int) 192 != 128) = !(decide (bat s (i + k) / 64 = 2)) := fin_and (P := fun n => (bitAnd .u8 ((n : Nat) : Int) 192 != 128) = !(decide (n / 64 = 2))) and192 hb
    have h2 : bitAnd .u8 ((bat s (i + k) : Nat) : Int) 63 = ((bat s (i + k) % 64 : Nat) : Int) := fin_and (P := fun n => bitAnd .u8 ((n : Nat) : Int) 63 = ((n % 64 : Nat) : Int)) and63 hb
    simp only [cond_false, bx_bat hlt, Option.bind_some, h1, h2]
    by_cases hc : bat s (i + k) / 64 = 2
    · rw [if_pos ⟨hlt, hc⟩]
      simp only [hc, decide_true, Bool.not_true, cond_false, bx_bat hlt, Option.bind_some, h2]
      have e2 : IntKind.wrap .i64 ((r : Int) * 64) = ((r * 64 : Nat) : Int) := by rw [wrap64 (by omega) (by omega)]; omega
      have e3 : IntKind.wrap .i64 ((bat s (i + k) % 64 : Nat) : Int) = ((bat s (i + k) % 64 : Nat) : Int) := wrap64 (by omega) (by omega)
      have e4 : IntKind.wrap .i64 (((r * 64 : Nat) : Int) + ((bat s (i + k) % 64 : Nat) : Int)) = ((r * 64 + bat s (i + k) % 64 : Nat) : Int) := by rw [wrap64 (by omega) (by omega)]; omega
      have e5 : IntKind.wrap .i64 ((k : Int) + 1) = ((k + 1 : Nat) : Int) := wrap_up (by omega)
      rw [e2, e3, e4, e5]
    · rw [if_neg (fun h => hc h.2)]
      simp only [hc, decide_false, Bool.not_false, cond_true]
  · rw [show decide (((i + k : Nat) : Int) ≥ (s.size : Int)) = true from decide_eq_true (by omega), if_neg (fun h => hlt h.1)]
    simp
/-- What a lead byte says: how many follow, the least, what it bears. -/
def leadN (c : Nat) : Option (Nat × Nat × Nat) := if 194 ≤ c ∧ c < 224 then some (1, 128, c % 32) else if 224 ≤ c ∧ c < 240 then some (2, 2048, c % 16) else if 240 ≤ c ∧ c < 245 then some (3, 65536, c % 8) else none
theorem l79_all {s : ByteArray} {i n least r0 : Nat} (hs : s.size < 4611686018427387904) (hi : i < s.size) (hn : 1 ≤ n ∧ n ≤ 3) (hr : r0 < 32) :
    loopO (tocsinref01_Utf8_l79 s (i : Int) ((n : Int), (least : Int), (r0 : Int))) ((r0 : Int), 1) =
      if (i + 1 < s.size ∧ bat s (i + 1) / 64 = 2) ∧ (2 ≤ n → i + 2 < s.size ∧ bat s (i + 2) / 64 = 2) ∧ (3 ≤ n → i + 3 < s.size ∧ bat s (i + 3) / 64 = 2) then
        some (.inl ((if n = 1 then r0 * 64 + bat s (i + 1) % 64 else if n = 2 then (r0 * 64 + bat s (i + 1) % 64) * 64 + bat s (i + 2) % 64 else ((r0 * 64 + bat s (i + 1) % 64) * 64 + bat s (i + 2) % 64) * 64 + bat s (i + 3) % 64 : Nat) : Int))
      else some (.inr (.inr (.inr (.inr false)))) := by
  have h1 := l79_step (s := s) (i := i) (n := n) (least := least) (r0 := r0) (r := r0) (k := 1) hs hi (by omega) hn.2 (by omega)
  by_cases c1 : i + 1 < s.size ∧ bat s (i + 1) / 64 = 2
  · rw [if_pos c1] at h1
    rw [show (1 : Int) = ((1 : Nat) : Int) from rfl, loopO_step h1]
    have b1 := bat_lt s (i + 1)
    by_cases n1 : n = 1
    · subst n1
      rw [l79_end (by omega) (by omega), if_pos ⟨c1, by omega, by omega⟩, if_pos rfl]
    · have h2 := l79_step (s := s) (i := i) (n := n) (least := least) (r0 := r0) (r := r0 * 64 + bat s (i + 1) % 64) (k := 2) hs hi (by omega) hn.2 (by omega)
      by_cases c2 : i + 2 < s.size ∧ bat s (i + 2) / 64 = 2
      · rw [if_pos c2] at h2
        rw [show ((1 + 1 : Nat) : Int) = ((2 : Nat) : Int) from rfl, loopO_step h2]
        have b2 := bat_lt s (i + 2)
        by_cases n2 : n = 2
        · subst n2
          rw [l79_end (by omega) (by omega), if_pos ⟨c1, fun _ => c2, by omega⟩]
          rfl
        · have h3 := l79_step (s := s) (i := i) (n := n) (least := least) (r0 := r0) (r := (r0 * 64 + bat s (i + 1) % 64) * 64 + bat s (i + 2) % 64) (k := 3) hs hi (by omega) hn.2 (by omega)
          by_cases c3 : i + 3 < s.size ∧ bat s (i + 3) / 64 = 2
          · rw [if_pos c3] at h3
            rw [show ((2 + 1 : Nat) : Int) = ((3 : Nat) : Int) from rfl, loopO_step h3, l79_end (by omega) (by omega), if_pos ⟨c1, fun _ => c2, fun _ => c3⟩, if_neg n1, if_neg n2]
          · rw [if_neg c3] at h3
            rw [show ((2 + 1 : Nat) : Int) = ((3 : Nat) : Int) from rfl, loopO_done h3, if_neg (fun h => c3 (h.2.2 (by omega)))]
      · rw [if_neg c2] at h2
        rw [show ((1 + 1 : Nat) : Int) = ((2 : Nat) : Int) from rfl, loopO_done h2, if_neg (fun h => c2 (h.2.1 (by omega)))]
  · rw [if_neg c1] at h1
    rw [show (1 : Int) = ((1 : Nat) : Int) from rfl, loopO_done h1, if_neg (fun h => c1 h.1)]
def contN (s : ByteArray) (i n least r0 : Nat) : Option Nat :=
  if (i + 1 < s.size ∧ bat s (i + 1) / 64 = 2) ∧ (2 ≤ n → i + 2 < s.size ∧ bat s (i + 2) / 64 = 2) ∧ (3 ≤ n → i + 3 < s.size ∧ bat s (i + 3) / 64 = 2) then
    (let r := if n = 1 then r0 * 64 + bat s (i + 1) % 64 else if n = 2 then (r0 * 64 + bat s (i + 1) % 64) * 64 + bat s (i + 2) % 64 else ((r0 * 64 + bat s (i + 1) % 64) * 64 + bat s (i + 2) % 64) * 64 + bat s (i + 3) % 64
     if r < least ∨ r > 1114111 ∨ (55296 ≤ r ∧ r < 57344) then none else some (i + n + 1))
  else none
/-- One round of the document's loop: the place behind the rune, or none. -/
def stepN (s : ByteArray) (i : Nat) : Option Nat :=
  if bat s i < 128 then some (i + 1) else match leadN (bat s i) with
    | none => none
    | some (n, least, r0) => contN s i n least r0
theorem l17_tail {s : ByteArray} {i n least r0 : Nat} (hs : s.size < 4611686018427387904) (hi : i < s.size) (hn : 1 ≤ n ∧ n ≤ 3) (hr : r0 < 32) (hl : least ≤ 65536) {X : Option ((Int) ⊕ ((Int) ⊕ ((Unit) ⊕ (Bool))))}
    (hX : X = Option.bind (loopO (tocsinref01_Utf8_l79 s (i : Int) ((n : Int), (least : Int), (r0 : Int))) ((r0 : Int), 1)) fun (r67 : (Int) ⊕ ((Int) ⊕ ((Int) ⊕ ((Unit) ⊕ (Bool))))) =>
          match r67 with
          | Sum.inl r75 => bif (((decide (r75 < (least : Int))) || (decide (r75 > 1114111))) || ((decide (r75 ≥ 55296)) && (decide (r75 < 57344)))) then
            (some (Sum.inr (Sum.inr (Sum.inr false))))
            else
            (some (Sum.inl (IntKind.wrap .i64 ((IntKind.wrap .i64 ((i : Int) + (n : Int))) + 1))))
          | Sum.inr v102 => some v102) :
    X = match contN s i n least r0 with
      | some j => some (Sum.inl (j : Int))
      | none => some (Sum.inr (Sum.inr (Sum.inr false))) := by
  subst hX
  rw [l79_all hs hi hn hr]
  unfold contN
  split
  · simp only [Option.bind_some]
    generalize (if n = 1 then r0 * 64 + bat s (i + 1) % 64 else if n = 2 then (r0 * 64 + bat s (i + 1) % 64) * 64 + bat s (i + 2) % 64 else ((r0 * 64 + bat s (i + 1) % 64) * 64 + bat s (i + 2) % 64) * 64 + bat s (i + 3) % 64) = r
    have e1 : IntKind.wrap .i64 (IntKind.wrap .i64 ((i : Int) + (n : Int)) + 1) = ((i + n + 1 : Nat) : Int) := by
      rw [wrap64 (x := (i : Int) + (n : Int)) (by omega) (by omega), wrap64 (by omega) (by omega)]; omega
    rw [e1]
    by_cases hb : r < least ∨ r > 1114111 ∨ (55296 ≤ r ∧ r < 57344)
    · rw [if_pos hb]
      have : (((decide ((r : Int) < (least : Int))) || (decide ((r : Int) > 1114111))) || ((decide ((r : Int) ≥ 55296)) && (decide ((r : Int) < 57344)))) = true := by
        simp only [Bool.or_eq_true, Bool.and_eq_true, decide_eq_true_eq]; omega
      rw [this]; rfl
    · rw [if_neg hb]
      have : (((decide ((r : Int) < (least : Int))) || (decide ((r : Int) > 1114111))) || ((decide ((r : Int) ≥ 55296)) && (decide ((r : Int) < 57344)))) = false := by
        rw [Bool.eq_false_iff]
        simp only [ne_eq, Bool.or_eq_true, Bool.and_eq_true, decide_eq_true_eq]; omega
      rw [this]; rfl
  · rfl
theorem l17_round {s : ByteArray} {i : Nat} (hs : s.size < 4611686018427387904) (hi : i < s.size) :
    tocsinref01_Utf8_l17 s (i : Int) = match stepN s i with | some j => some (.inl (j : Int)) | none => some (.inr (.inr false)) := by
  unfold tocsinref01_Utf8_l17
  have hb := bat_lt s i
  have w1 : IntKind.wrap .i64 ((bat s i : Nat) : Int) = ((bat s i : Nat) : Int) := wrap64 (by omega) (by omega)
  rw [show decide ((i : Int) < (s.size : Int)) = true from decide_eq_true (by omega)]
  simp only [cond_true, bx_bat hi, Option.bind_some, w1]
  unfold stepN
  by_cases h0 : bat s i < 128
  · rw [if_pos h0, show decide (((bat s i : Nat) : Int) < 128) = true from decide_eq_true (by omega), show IntKind.wrap .i64 ((i : Int) + 1) = ((i + 1 : Nat) : Int) from by rw [wrap64 (by omega) (by omega)]; omega]
    rfl
  · rw [if_neg h0, show decide (((bat s i : Nat) : Int) < 128) = false from decide_eq_false (by omega)]
    simp only [cond_false]
    have a31 : bitAnd .i64 ((bat s i : Nat) : Int) 31 = ((bat s i % 32 : Nat) : Int) := fin_and (P := fun n => bitAnd .i64 ((n : Nat) : Int) 31 = ((n % 32 : Nat) : Int)) and31 hb
    have a15 : bitAnd .i64 ((bat s i : Nat) : Int) 15 = ((bat s i % 16 : Nat) : Int) := fin_and (P := fun n => bitAnd .i64 ((n : Nat) : Int) 15 = ((n % 16 : Nat) : Int)) and15 hb
    have a7 : bitAnd .i64 ((bat s i : Nat) : Int) 7 = ((bat s i % 8 : Nat) : Int) := fin_and (P := fun n => bitAnd .i64 ((n : Nat) : Int) 7 = ((n % 8 : Nat) : Int)) Go.GB.and7 hb
    simp only [a31, a15, a7]
    unfold leadN
    by_cases c1 : 194 ≤ bat s i ∧ bat s i < 224
    · have : ((decide (((bat s i : Nat) : Int) ≥ 194)) && (decide (((bat s i : Nat) : Int) < 224))) = true := by simp only [Bool.and_eq_true, decide_eq_true_eq]; omega
      simp only [this, cond_true, Option.bind_some, if_pos c1]
      have hT := l17_tail (s := s) (i := i) (n := 1) (least := 128) (r0 := bat s i % 32) hs hi (by omega) (by omega) (by omega) rfl
      simp only [show ((1 : Nat) : Int) = 1 from rfl, show ((128 : Nat) : Int) = 128 from rfl] at hT
      refine Eq.trans (congrArg (fun X => Option.bind X _) hT) ?_
      cases contN s i 1 128 (bat s i % 32) <;> rfl
    · have f1 : ((decide (((bat s i : Nat) : Int) ≥ 194)) && (decide (((bat s i : Nat) : Int) < 224))) = false := by rw [Bool.eq_false_iff]; simp only [ne_eq, Bool.and_eq_true, decide_eq_true_eq]; omega
      simp only [f1, cond_false, if_neg c1]
      by_cases c2 : 224 ≤ bat s i ∧ bat s i < 240
      · have : ((decide (((bat s i : Nat) : Int) ≥ 224)) && (decide (((bat s i : Nat) : Int) < 240))) = true := by simp only [Bool.and_eq_true, decide_eq_true_eq]; omega
        simp only [this, cond_true, Option.bind_some, if_pos c2]
        have hT := l17_tail (s := s) (i := i) (n := 2) (least := 2048) (r0 := bat s i % 16) hs hi (by omega) (by omega) (by omega) rfl
        simp only [show ((2 : Nat) : Int) = 2 from rfl, show ((2048 : Nat) : Int) = 2048 from rfl] at hT
        refine Eq.trans (congrArg (fun X => Option.bind X _) hT) ?_
        cases contN s i 2 2048 (bat s i % 16) <;> rfl
      · have f2 : ((decide (((bat s i : Nat) : Int) ≥ 224)) && (decide (((bat s i : Nat) : Int) < 240))) = false := by rw [Bool.eq_false_iff]; simp only [ne_eq, Bool.and_eq_true, decide_eq_true_eq]; omega
        simp only [f2, cond_false, if_neg c2]
        by_cases c3 : 240 ≤ bat s i ∧ bat s i < 245
        · have : ((decide (((bat s i : Nat) : Int) ≥ 240)) && (decide (((bat s i : Nat) : Int) < 245))) = true := by simp only [Bool.and_eq_true, decide_eq_true_eq]; omega
          simp only [this, cond_true, Option.bind_some, if_pos c3]
          have hT := l17_tail (s := s) (i := i) (n := 3) (least := 65536) (r0 := bat s i % 8) hs hi (by omega) (by omega) (by omega) rfl
          simp only [show ((3 : Nat) : Int) = 3 from rfl, show ((65536 : Nat) : Int) = 65536 from rfl] at hT
          refine Eq.trans (congrArg (fun X => Option.bind X _) hT) ?_
          cases contN s i 3 65536 (bat s i % 8) <;> rfl
        · have f3 : ((decide (((bat s i : Nat) : Int) ≥ 240)) && (decide (((bat s i : Nat) : Int) < 245))) = false := by rw [Bool.eq_false_iff]; simp only [ne_eq, Bool.and_eq_true, decide_eq_true_eq]; omega
          simp only [f3, cond_false, if_neg c3, Option.bind_some]
theorem getD_drop (l : List UInt8) (i k : Nat) : (l.drop i).getD k 0 = l.getD (i + k) 0 := by simp [List.getD_eq_getElem?_getD, List.getElem?_drop]
theorem dec2 {n c b1 b2 b3 : Nat} (hc : 194 ≤ c ∧ c < 224) : decodeN n c b1 b2 b3 = if 1 < n ∧ b1 / 64 = 2 then (c % 32 * 64 + b1 % 64, 2) else (65533, 1) := by
  unfold decodeN
  rw [if_neg (by omega)]
  by_cases h : 1 < n ∧ b1 / 64 = 2
  · rw [if_pos ⟨by omega, h⟩, if_pos (by omega), if_pos h]
  · rw [if_neg (fun g => h g.2), if_neg (fun g => h g.2.1), if_neg (fun g => h g.2.1), if_neg h]
theorem dec3 {n c b1 b2 b3 : Nat} (hc : 224 ≤ c ∧ c < 240) : decodeN n c b1 b2 b3 = if (1 < n ∧ b1 / 64 = 2) ∧ (2 < n ∧ b2 / 64 = 2) then
    (if (c % 16 * 64 + b1 % 64) * 64 + b2 % 64 < 2048 ∨ (55296 ≤ (c % 16 * 64 + b1 % 64) * 64 + b2 % 64 ∧ (c % 16 * 64 + b1 % 64) * 64 + b2 % 64 < 57344) then (65533, 1) else ((c % 16 * 64 + b1 % 64) * 64 + b2 % 64, 3)) else (65533, 1) := by
  unfold decodeN
  rw [if_neg (by omega), if_neg (by omega)]
  by_cases h : (1 < n ∧ b1 / 64 = 2) ∧ (2 < n ∧ b2 / 64 = 2)
  · rw [if_pos ⟨by omega, h⟩, if_pos h]
    have e : c % 16 * 4096 + b1 % 64 * 64 + b2 % 64 = (c % 16 * 64 + b1 % 64) * 64 + b2 % 64 := by omega
    rw [e]
    by_cases h2 : (c % 16 * 64 + b1 % 64) * 64 + b2 % 64 < 2048 ∨ (55296 ≤ (c % 16 * 64 + b1 % 64) * 64 + b2 % 64 ∧ (c % 16 * 64 + b1 % 64) * 64 + b2 % 64 < 57344)
    · rw [if_pos h2, if_neg (by omega)]
    · rw [if_neg h2, if_pos (by omega)]
  · rw [if_neg (fun g => h g.2), if_neg (fun g => h ⟨g.2.1, g.2.2.1⟩), if_neg h]
theorem dec4 {n c b1 b2 b3 : Nat} (hc : 240 ≤ c ∧ c < 245) : decodeN n c b1 b2 b3 = if (1 < n ∧ b1 / 64 = 2) ∧ (2 < n ∧ b2 / 64 = 2) ∧ (3 < n ∧ b3 / 64 = 2) then
    (if ((c % 8 * 64 + b1 % 64) * 64 + b2 % 64) * 64 + b3 % 64 < 65536 ∨ 1114111 < ((c % 8 * 64 + b1 % 64) * 64 + b2 % 64) * 64 + b3 % 64 then (65533, 1) else (((c % 8 * 64 + b1 % 64) * 64 + b2 % 64) * 64 + b3 % 64, 4)) else (65533, 1) := by
  unfold decodeN
  rw [if_neg (by omega), if_neg (by omega), if_neg (by omega)]
  by_cases h : (1 < n ∧ b1 / 64 = 2) ∧ (2 < n ∧ b2 / 64 = 2) ∧ (3 < n ∧ b3 / 64 = 2)
  · rw [if_pos ⟨by omega, h⟩, if_pos h]
    have e : c % 8 * 262144 + b1 % 64 * 4096 + b2 % 64 * 64 + b3 % 64 = ((c % 8 * 64 + b1 % 64) * 64 + b2 % 64) * 64 + b3 % 64 := by omega
    rw [e]
    by_cases h2 : ((c % 8 * 64 + b1 % 64) * 64 + b2 % 64) * 64 + b3 % 64 < 65536 ∨ 1114111 < ((c % 8 * 64 + b1 % 64) * 64 + b2 % 64) * 64 + b3 % 64
    · rw [if_pos h2, if_neg (by omega)]
    · rw [if_neg h2, if_pos (by omega)]
  · rw [if_neg (fun g => h g.2), if_neg h]
set_option maxHeartbeats 1000000 in
/-- The document's round and the library's are one. -/
theorem stepN_valid {s : ByteArray} {i : Nat} (hi : i < s.size) : validD (s.data.toList.drop i) = match stepN s i with | some j => validD (s.data.toList.drop j) | none => false := by
  have hl : s.data.toList.length = s.size := size_list s
  have hne : s.data.toList.drop i ≠ [] := by intro h; have := congrArg List.length h; simp at this; omega
  have hlen : (s.data.toList.drop i).length = s.size - i := by rw [List.length_drop, hl]
  rw [validD_step _ hne, decodeL_N, hlen]
  simp only [getD_drop, Nat.add_zero]
  have b0 := bat_lt s i
  change (if (decodeN (s.size - i) (bat s i) (bat s (i + 1)) (bat s (i + 2)) (bat s (i + 3))).1 = 65533 ∧ (decodeN (s.size - i) (bat s i) (bat s (i + 1)) (bat s (i + 2)) (bat s (i + 3))).2 = 1 then false else validD ((s.data.toList.drop i).drop (decodeN (s.size - i) (bat s i) (bat s (i + 1)) (bat s (i + 2)) (bat s (i + 3))).2)) = _
  rw [List.drop_drop]
  unfold stepN leadN
  by_cases h0 : bat s i < 128
  · rw [if_pos h0, show decodeN (s.size - i) (bat s i) (bat s (i + 1)) (bat s (i + 2)) (bat s (i + 3)) = (bat s i, 1) from by unfold decodeN; rw [if_pos h0]]
    rw [if_neg (by simp; omega)]
  · rw [if_neg h0]
    by_cases c1 : 194 ≤ bat s i ∧ bat s i < 224
    · rw [if_pos c1, dec2 c1]
      show _ = match contN s i 1 128 (bat s i % 32) with | some j => validD (s.data.toList.drop j) | none => false
      by_cases k1 : i + 1 < s.size ∧ bat s (i + 1) / 64 = 2
      · have e : contN s i 1 128 (bat s i % 32) = some (i + 1 + 1) := by
          unfold contN
          rw [if_pos ⟨k1, by omega, by omega⟩]
          simp only [if_true]
          rw [if_neg (by omega)]
        rw [e, if_pos (show 1 < s.size - i ∧ bat s (i + 1) / 64 = 2 from ⟨by omega, k1.2⟩), if_neg (by simp)]; rfl
      · have e : contN s i 1 128 (bat s i % 32) = none := by
          unfold contN
          rw [if_neg (fun g => k1 g.1)]
        rw [e, if_neg (show ¬ (1 < s.size - i ∧ bat s (i + 1) / 64 = 2) from fun g => k1 ⟨by omega, g.2⟩), if_pos ⟨rfl, rfl⟩]
    · rw [if_neg c1]
      by_cases c2 : 224 ≤ bat s i ∧ bat s i < 240
      · rw [if_pos c2, dec3 c2]
        show _ = match contN s i 2 2048 (bat s i % 16) with | some j => validD (s.data.toList.drop j) | none => false
        by_cases k1 : (i + 1 < s.size ∧ bat s (i + 1) / 64 = 2) ∧ (i + 2 < s.size ∧ bat s (i + 2) / 64 = 2)
        · rw [if_pos (show (1 < s.size - i ∧ bat s (i + 1) / 64 = 2) ∧ (2 < s.size - i ∧ bat s (i + 2) / 64 = 2) from ⟨⟨by omega, k1.1.2⟩, by omega, k1.2.2⟩)]
          by_cases k2 : (bat s i % 16 * 64 + bat s (i + 1) % 64) * 64 + bat s (i + 2) % 64 < 2048 ∨ (55296 ≤ (bat s i % 16 * 64 + bat s (i + 1) % 64) * 64 + bat s (i + 2) % 64 ∧ (bat s i % 16 * 64 + bat s (i + 1) % 64) * 64 + bat s (i + 2) % 64 < 57344)
          · have e : contN s i 2 2048 (bat s i % 16) = none := by
              unfold contN
              rw [if_pos ⟨k1.1, fun _ => k1.2, by omega⟩]
              simp only [show ¬ (2 : Nat) = 1 from by omega, if_false, if_true]
              rw [if_pos (by omega)]
            rw [e, if_pos k2, if_pos ⟨rfl, rfl⟩]
          · have e : contN s i 2 2048 (bat s i % 16) = some (i + 2 + 1) := by
              unfold contN
              rw [if_pos ⟨k1.1, fun _ => k1.2, by omega⟩]
              simp only [show ¬ (2 : Nat) = 1 from by omega, if_false, if_true]
              rw [if_neg (by omega)]
            rw [e, if_neg k2, if_neg (by simp)]; rfl
        · have e : contN s i 2 2048 (bat s i % 16) = none := by
            unfold contN
            rw [if_neg (fun g => k1 ⟨g.1, g.2.1 (by omega)⟩)]
          rw [e, if_neg (show ¬ ((1 < s.size - i ∧ bat s (i + 1) / 64 = 2) ∧ (2 < s.size - i ∧ bat s (i + 2) / 64 = 2)) from fun g => k1 ⟨⟨by omega, g.1.2⟩, by omega, g.2.2⟩), if_pos ⟨rfl, rfl⟩]
      · rw [if_neg c2]
        by_cases c3 : 240 ≤ bat s i ∧ bat s i < 245
        · rw [if_pos c3, dec4 c3]
          show _ = match contN s i 3 65536 (bat s i % 8) with | some j => validD (s.data.toList.drop j) | none => false
          by_cases k1 : (i + 1 < s.size ∧ bat s (i + 1) / 64 = 2) ∧ (i + 2 < s.size ∧ bat s (i + 2) / 64 = 2) ∧ (i + 3 < s.size ∧ bat s (i + 3) / 64 = 2)
          · rw [if_pos (show (1 < s.size - i ∧ bat s (i + 1) / 64 = 2) ∧ (2 < s.size - i ∧ bat s (i + 2) / 64 = 2) ∧ (3 < s.size - i ∧ bat s (i + 3) / 64 = 2) from ⟨⟨by omega, k1.1.2⟩, ⟨by omega, k1.2.1.2⟩, by omega, k1.2.2.2⟩)]
            by_cases k2 : ((bat s i % 8 * 64 + bat s (i + 1) % 64) * 64 + bat s (i + 2) % 64) * 64 + bat s (i + 3) % 64 < 65536 ∨ 1114111 < ((bat s i % 8 * 64 + bat s (i + 1) % 64) * 64 + bat s (i + 2) % 64) * 64 + bat s (i + 3) % 64
            · have e : contN s i 3 65536 (bat s i % 8) = none := by
                unfold contN
                rw [if_pos ⟨k1.1, fun _ => k1.2.1, fun _ => k1.2.2⟩]
                simp only [show ¬ (3 : Nat) = 1 from by omega, show ¬ (3 : Nat) = 2 from by omega, if_false]
                rw [if_pos (by omega)]
              rw [e, if_pos k2, if_pos ⟨rfl, rfl⟩]
            · have e : contN s i 3 65536 (bat s i % 8) = some (i + 3 + 1) := by
                unfold contN
                rw [if_pos ⟨k1.1, fun _ => k1.2.1, fun _ => k1.2.2⟩]
                simp only [show ¬ (3 : Nat) = 1 from by omega, show ¬ (3 : Nat) = 2 from by omega, if_false]
                rw [if_neg (by omega)]
              rw [e, if_neg k2, if_neg (by simp)]; rfl
          · have e : contN s i 3 65536 (bat s i % 8) = none := by
              unfold contN
              rw [if_neg (fun g => k1 ⟨g.1, g.2.1 (by omega), g.2.2 (by omega)⟩)]
            rw [e, if_neg (show ¬ ((1 < s.size - i ∧ bat s (i + 1) / 64 = 2) ∧ (2 < s.size - i ∧ bat s (i + 2) / 64 = 2) ∧ (3 < s.size - i ∧ bat s (i + 3) / 64 = 2)) from fun g => k1 ⟨⟨by omega, g.1.2⟩, ⟨by omega, g.2.1.2⟩, by omega, g.2.2.2⟩), if_pos ⟨rfl, rfl⟩]
        · rw [if_neg c3, decodeN_bad _ _ _ _ _ (by omega)]
          simp
theorem contN_some {s : ByteArray} {i n least r0 j : Nat} (h : contN s i n least r0 = some j) : j = i + n + 1 ∧ (i + 1 < s.size ∧ bat s (i + 1) / 64 = 2) ∧ (2 ≤ n → i + 2 < s.size ∧ bat s (i + 2) / 64 = 2) ∧ (3 ≤ n → i + 3 < s.size ∧ bat s (i + 3) / 64 = 2) := by
  unfold contN at h
  split at h
  · rename_i hc
    refine ⟨?_, hc⟩
    have : ∀ (p : Prop) [Decidable p], (if p then none else some (i + n + 1)) = some j → j = i + n + 1 := fun p _ hp => by
      split at hp <;> cases hp
      rfl
    exact this _ h
  · cases h
theorem stepN_up {s : ByteArray} {i j : Nat} (h : stepN s i = some j) : i < j := by
  unfold stepN at h
  split at h
  · cases h; omega
  · split at h
    · cases h
    · have := (contN_some h).1; omega
theorem stepN_le {s : ByteArray} {i j : Nat} (hi : i < s.size) (h : stepN s i = some j) : j ≤ s.size := by
  unfold stepN at h
  split at h
  · cases h; omega
  · unfold leadN at h
    split at h
    · cases h
    · rename_i n least r0 hl
      obtain ⟨rfl, h1, h2, h3⟩ := contN_some h
      split at hl
      · cases hl; omega
      · split at hl
        · cases hl; have := h2 (by omega); omega
        · split at hl
          · cases hl; have := h3 (by omega); omega
          · cases hl
theorem utf8_loop {s : ByteArray} (hs : s.size < 4611686018427387904) : ∀ d i : Nat, s.size - i = d → i ≤ s.size → loopO (tocsinref01_Utf8_l17 s) (i : Int) = some (if validD (s.data.toList.drop i) then .inl () else .inr false) := by
  intro d
  induction d using Nat.strongRecOn with
  | _ d ih =>
    intro i hd hi
    by_cases hlt : i < s.size
    · have hr := l17_round hs hlt
      have hv := stepN_valid hlt
      cases hn : stepN s i with
      | none =>
        rw [hn] at hr hv
        rw [loopO_done hr, hv]; rfl
      | some j =>
        rw [hn] at hr hv
        have h1 := stepN_up hn
        have h2 := stepN_le hlt hn
        rw [loopO_step hr, hv]
        exact ih (s.size - j) (by omega) j rfl h2
    · have : i = s.size := by omega
      subst this
      have he : tocsinref01_Utf8_l17 s (s.size : Int) = some (.inr (.inl ())) := by
        unfold tocsinref01_Utf8_l17
        rw [show decide ((s.size : Int) < (s.size : Int)) = false from decide_eq_false (by omega)]
        rfl
      rw [loopO_done he]
      rw [show s.data.toList.drop s.size = [] from List.drop_eq_nil_of_le (Nat.le_of_eq (size_list s))]
      rfl
/-- The document's Utf8 is the library's ValidString. -/
theorem refUtf8_eq {s : ByteArray} (hs : s.size < 4611686018427387904) : tocsinref01_Utf8 s = some (validD s.data.toList) := by
  unfold tocsinref01_Utf8
  have := utf8_loop hs s.size 0 (by omega) (by omega)
  rw [show ((0 : Nat) : Int) = 0 from rfl, List.drop_zero] at this
  rw [this]
  cases validD s.data.toList <;> rfl
theorem valid_eq {s : ByteArray} (hs : s.size < 4611686018427387904) : utf8_ValidString s = some (validD s.data.toList) := by
  unfold utf8_ValidString
  rw [if_pos (by omega)]
end Go.Proofs.YtnlkfajnaelnnaaGreatDoor

/- Plain laws, base: the order of texts. -/
set_option linter.unusedVariables false
namespace Go.GB
open Go.Lib
theorem cb_self : ∀ a : List UInt8, compareBytes a a = 0
  | [] => rfl
  | a :: xs => by unfold compareBytes; rw [if_neg (UInt8.lt_irrefl a), if_neg (UInt8.lt_irrefl a)]; exact cb_self xs
theorem cb_swap : ∀ a b : List UInt8, compareBytes b a = - compareBytes a b
  | [], [] => rfl
  | [], _ :: _ => rfl
  | _ :: _, [] => rfl
  | a :: xs, b :: ys => by
    unfold compareBytes
    by_cases h1 : a < b
    · have h2 : ¬ b < a := fun h => UInt8.lt_irrefl a (UInt8.lt_trans h1 h)
      rw [if_pos h1, if_neg h2, if_pos h1]; rfl
    · by_cases h2 : b < a
      · rw [if_pos h2, if_neg h1, if_pos h2]
      · rw [if_neg h2, if_neg h1, if_neg h1, if_neg h2]; exact cb_swap xs ys
theorem u8_eq {a b : UInt8} (h1 : ¬ a < b) (h2 : ¬ b < a) : a = b := UInt8.le_antisymm (UInt8.not_lt.1 h2) (UInt8.not_lt.1 h1)
theorem cb_zero : ∀ a b : List UInt8, compareBytes a b = 0 → a = b
  | [], [], _ => rfl
  | [], _ :: _, h => by simp [compareBytes] at h
  | _ :: _, [], h => by simp [compareBytes] at h
  | a :: xs, b :: ys, h => by
    unfold compareBytes at h
    by_cases h1 : a < b
    · rw [if_pos h1] at h; cases h
    · by_cases h2 : b < a
      · rw [if_neg h1, if_pos h2] at h; cases h
      · rw [if_neg h1, if_neg h2] at h
        rw [cb_zero xs ys h, u8_eq h1 h2]
theorem cb_range : ∀ a b : List UInt8, compareBytes a b = -1 ∨ compareBytes a b = 0 ∨ compareBytes a b = 1
  | [], [] => by simp [compareBytes]
  | [], _ :: _ => by simp [compareBytes]
  | _ :: _, [] => by simp [compareBytes]
  | a :: xs, b :: ys => by
    unfold compareBytes
    split
    · simp
    · split
      · simp
      · exact cb_range xs ys
theorem cb_less : ∀ a b : List UInt8, Op.bytesLess a b = decide (compareBytes a b = -1)
  | [], [] => by simp [compareBytes, Op.bytesLess]
  | [], _ :: _ => by simp [compareBytes, Op.bytesLess]
  | _ :: _, [] => by simp [compareBytes, Op.bytesLess]
  | a :: xs, b :: ys => by
    unfold compareBytes Op.bytesLess
    by_cases h1 : a < b
    · simp [h1]
    · by_cases h2 : b < a
      · have h3 : (a == b) = false := by
          rw [beq_eq_false_iff_ne]; rintro rfl; exact h1 h2
        simp [h1, h2, h3]
      · have h3 := u8_eq h1 h2
        subst h3
        simp [h1, cb_less xs ys]
theorem cb_trans : ∀ a b c : List UInt8, compareBytes a b = -1 → compareBytes b c = -1 → compareBytes a c = -1
  | [], [], _, h, _ => by simp [compareBytes] at h
  | [], _ :: _, [], _, h => by simp [compareBytes] at h
  | [], _ :: _, _ :: _, _, _ => by simp [compareBytes]
  | _ :: _, [], _, h, _ => by simp [compareBytes] at h
  | _ :: _, _ :: _, [], _, h => by simp [compareBytes] at h
  | a :: xs, b :: ys, c :: zs, h, k => by
    unfold compareBytes at h k ⊢
    by_cases h1 : a < b
    · by_cases h3 : b < c
      · rw [if_pos (UInt8.lt_trans h1 h3)]
      · by_cases h4 : c < b
        · rw [if_neg h3, if_pos h4] at k; cases k
        · rw [← u8_eq h3 h4, if_pos h1]
    · by_cases h2 : b < a
      · rw [if_neg h1, if_pos h2] at h; cases h
      · have e := u8_eq h1 h2
        subst e
        rw [if_neg h1, if_neg h1] at h
        by_cases h3 : a < c
        · rw [if_pos h3]
        · by_cases h4 : c < a
          · rw [if_neg h3, if_pos h4] at k; cases k
          · rw [if_neg h3, if_neg h4] at k
            rw [if_neg h3, if_neg h4]
            exact cb_trans xs ys zs h k
def cmpS (a b : ByteArray) : Int := compareBytes a.data.toList b.data.toList
theorem cmpS_self (a : ByteArray) : cmpS a a = 0 := cb_self _
theorem cmpS_swap (a b : ByteArray) : cmpS b a = - cmpS a b := cb_swap _ _
theorem ba_eq {a b : ByteArray} (h : a.data.toList = b.data.toList) : a = b := by
  obtain ⟨⟨x⟩⟩ := a
  obtain ⟨⟨y⟩⟩ := b
  simpa using h
theorem cmpS_zero {a b : ByteArray} (h : cmpS a b = 0) : a = b := ba_eq (cb_zero _ _ h)
theorem cmpS_range (a b : ByteArray) : cmpS a b = -1 ∨ cmpS a b = 0 ∨ cmpS a b = 1 := cb_range _ _
theorem cmpS_trans {a b c : ByteArray} (h : cmpS a b = -1) (k : cmpS b c = -1) : cmpS a c = -1 := cb_trans _ _ _ h k
theorem toList_eq (a : ByteArray) : a.toList = a.data.toList := ByteArray.toList_eq a
theorem less_eq (a b : ByteArray) : Op.bytesLess a.toList b.toList = decide (cmpS a b = -1) := by rw [toList_eq, toList_eq]; exact cb_less _ _
theorem beq_eq (a b : ByteArray) : (a.toList == b.toList) = decide (cmpS a b = 0) := by
  rw [Bool.eq_iff_iff, toList_inj, decide_eq_true_iff]
  exact ⟨fun h => by rw [h]; exact cmpS_self _, cmpS_zero⟩
end Go.GB

/- Plain laws: names, values, label sets: the program's are the document's. -/
set_option linter.unusedVariables false
set_option maxRecDepth 100000
namespace Go.Proofs.YtnlkfajnaelnnaaGreatDoor
open Go.GB Go.Lib
theorem ix_bytes {s : ByteArray} {i : Nat} (h : i < s.size) : ix (bytesOf s) (i : Int) = some ((bat s i : Nat) : Int) := by
  rw [ix_nat]
  unfold bytesOf bat
  have : i < s.data.toList.length := by rw [size_list]; exact h
  rw [List.getElem?_map, List.getElem?_eq_getElem this, List.getD_eq_getElem?_getD, List.getElem?_eq_getElem this]
  rfl
noncomputable def namedB (s : ByteArray) (most : Nat) (colon : Bool) : Bool := decide (s.size ≠ 0) && (decide (s.size ≤ most) && (!labels_digit (bat s 0) && (List.range s.size).all fun i => labels_letter (bat s i) || (labels_digit (bat s i) || (colon && ((bat s i : Nat) : Int) == 58))))
theorem named_eq (s : ByteArray) {most : Nat} (hm : most ≤ 2147483648) (colon : Bool) : labels_named s (most : Int) colon = some (namedB s most colon) := by
  unfold labels_named namedB
  rw [nil_size]
  by_cases h0 : s.size = 0
  · simp [h0]
  · by_cases h1 : s.size ≤ most
    · have e1 : decide ((s.size : Int) > (most : Int)) = false := decide_eq_false (by omega)
      have e2 : bx s 0 = some ((bat s 0 : Nat) : Int) := bx_bat (i := 0) (by omega)
      simp only [h0, decide_false, cond_false, e1, e2, Option.bind_some, not_false_eq_true, ne_eq, decide_true, h1, Bool.true_and]
      cases hd : labels_digit ((bat s 0 : Nat) : Int) with
      | true => simp
      | false =>
        have e3 : sb s = some (bytesOf s) := by unfold sb maxLen'; rw [if_pos (by omega)]
        simp only [cond_false, e3, Option.bind_some, Bool.not_false, Bool.true_and]
        rw [up_all (n := s.size) (fun i => labels_letter (bat s i) || (labels_digit (bat s i) || (colon && ((bat s i : Nat) : Int) == 58))) (fun i hi => ?_) ?_]
        · simp only [Option.bind_some]
          cases (List.range s.size).all fun i => labels_letter (bat s i) || (labels_digit (bat s i) || (colon && ((bat s i : Nat) : Int) == 58)) <;> rfl
        · unfold labels_named_l33
          rw [show decide ((s.size : Int) < ((bytesOf s).length : Int)) = false from decide_eq_false (by rw [bytesOf_length]; omega)]
          rfl
        · unfold labels_named_l33
          rw [show decide ((i : Int) < ((bytesOf s).length : Int)) = true from decide_eq_true (by rw [bytesOf_length]; omega)]
          simp only [cond_true, ix_bytes hi, Option.bind_some, wrap_up (show i < 4294967296 by omega)]
          cases labels_letter ((bat s i : Nat) : Int) <;> cases labels_digit ((bat s i : Nat) : Int) <;> cases (colon && ((bat s i : Nat) : Int) == 58) <;> rfl
    · have e1 : decide ((s.size : Int) > (most : Int)) = true := decide_eq_true (by omega)
      simp only [h0, h1, decide_false, decide_true, cond_false, e1, cond_true, Option.bind_some, ne_eq, not_false_eq_true, Bool.false_and, Bool.and_false]
theorem Name_eq (s : ByteArray) : labels_Name s = some (namedB s 64 false) := by
  unfold labels_Name
  rw [show (64 : Int) = ((64 : Nat) : Int) from rfl, named_eq s (by omega) false]
  rfl
theorem let_not_dig (c : Int) : labels_letter c = true → labels_digit c = false := by
  unfold labels_letter labels_digit
  intro h
  rw [Bool.eq_false_iff]
  simp only [Bool.or_eq_true, Bool.and_eq_true, decide_eq_true_eq, beq_iff_eq] at h
  simp only [ne_eq, Bool.and_eq_true, decide_eq_true_eq]
  omega
theorem refName_eq (s : ByteArray) : tocsinref04_Name s = some (namedB s 64 false) := by
  unfold tocsinref04_Name namedB
  rw [nil_size]
  by_cases h0 : s.size = 0
  · simp [h0]
  · by_cases h1 : s.size ≤ 64
    · have e1 : decide ((s.size : Int) > 64) = false := decide_eq_false (by omega)
      simp only [h0, decide_false, e1, Bool.or_self, cond_false, not_false_eq_true, ne_eq, decide_true, h1, Bool.true_and]
      have hq : (!labels_digit ((bat s 0 : Nat) : Int) && (List.range s.size).all fun i => labels_letter (bat s i) || (labels_digit (bat s i) || (false && ((bat s i : Nat) : Int) == 58))) = (List.range s.size).all fun i => labels_letter (bat s i) || (decide (i ≠ 0) && labels_digit (bat s i)) := by
        rw [Bool.eq_iff_iff, Bool.and_eq_true, List.all_eq_true, List.all_eq_true]
        constructor
        · rintro ⟨h2, h3⟩ i hi
          have := h3 i hi
          by_cases hi0 : i = 0
          · subst hi0
            simp only [Bool.not_eq_true'] at h2
            simpa [h2] using this
          · simpa [hi0] using this
        · intro h3
          refine ⟨?_, fun i hi => ?_⟩
          · have := h3 0 (List.mem_range.2 (by omega))
            simp only [ne_eq, not_true_eq_false, decide_false, Bool.false_and, Bool.or_false] at this
            rw [let_not_dig _ this]; rfl
          · have := h3 i hi
            simp only [Bool.or_eq_true, Bool.and_eq_true] at this ⊢
            rcases this with h | h
            · exact .inl h
            · exact .inr (.inl h.2)
      rw [hq, up_all (n := s.size) (fun i => labels_letter (bat s i) || (decide (i ≠ 0) && labels_digit (bat s i))) (fun i hi => ?_) ?_]
      · simp only [Option.bind_some]
        cases (List.range s.size).all fun i => labels_letter (bat s i) || (decide (i ≠ 0) && labels_digit (bat s i)) <;> rfl
      · unfold tocsinref04_Name_l24
        rw [show decide ((s.size : Int) < (s.size : Int)) = false from decide_eq_false (by omega)]
        rfl
      · unfold tocsinref04_Name_l24
        rw [show decide ((i : Int) < (s.size : Int)) = true from decide_eq_true (by omega)]
        have el : ∀ c, tocsinref04_letter c = labels_letter c := fun _ => rfl
        have ed : ∀ c, tocsinref04_digit c = labels_digit c := fun _ => rfl
        simp only [cond_true, bx_bat hi, Option.bind_some, wrap_up (show i < 4294967296 by omega), el, ed]
        by_cases hi0 : i = 0
        · subst hi0
          cases labels_letter ((bat s 0 : Nat) : Int) <;> rfl
        · have e2 : ((i : Int) == 0) = false := by rw [beq_eq_false_iff_ne]; omega
          simp only [e2, hi0, cond_false]
          cases labels_letter ((bat s i : Nat) : Int) <;> cases labels_digit ((bat s i : Nat) : Int) <;> simp [hi0]
    · have e1 : decide ((s.size : Int) > 64) = true := decide_eq_true (by omega)
      simp only [e1, h1, Bool.or_true, cond_true, decide_false, Bool.false_and, Bool.and_false]
noncomputable def valueE (s : ByteArray) : Int := if s.size = 0 then 41 else if s.size > 256 then 4 else if validD s.data.toList then 0 else 12
theorem value_eq (s : ByteArray) : labels_value s = some (valueE s) := by
  unfold labels_value valueE
  rw [nil_size]
  by_cases h0 : s.size = 0
  · simp [h0]
  · by_cases h1 : s.size > 256
    · simp [h0, h1, show decide ((s.size : Int) > 256) = true from decide_eq_true (by omega)]
    · have e1 : decide ((s.size : Int) > 256) = false := decide_eq_false (by omega)
      simp only [h0, decide_false, cond_false, e1, valid_eq (show s.size < 4611686018427387904 by omega), Option.bind_some, if_false, h1]
      cases validD s.data.toList <;> rfl
noncomputable def oneE (x : S49) : Int := if namedB x.f0 64 false then valueE x.f1 else 40
theorem refOne_eq (x : S49) : tocsinref04_one x = some (oneE x) := by
  unfold tocsinref04_one oneE
  rw [refName_eq, nil_size]
  simp only [Option.bind_some]
  cases namedB x.f0 64 false with
  | false => rfl
  | true =>
    simp only [Bool.not_true, cond_false, if_true]
    unfold valueE
    by_cases h0 : x.f1.size = 0
    · simp [h0]
    · by_cases h1 : x.f1.size > 256
      · simp [h0, h1, show decide ((x.f1.size : Int) > 256) = true from decide_eq_true (by omega)]
      · have e1 : decide ((x.f1.size : Int) > 256) = false := decide_eq_false (by omega)
        simp only [h0, decide_false, cond_false, e1, refUtf8_eq (show x.f1.size < 4611686018427387904 by omega), Option.bind_some, if_false, h1]
        cases validD x.f1.data.toList <;> rfl
/-- The first fault of a label set, at a place. -/
noncomputable def faultAt (l : List S49) (i : Nat) : Option (Int × Int) := match l[i]? with
  | none => none
  | some x => if oneE x ≠ 0 then some (oneE x, (i : Int)) else if i = 0 then none else match l[i - 1]? with
    | none => none
    | some y => if cmpS y.f0 x.f0 = -1 then none else some (3, (i : Int))
noncomputable def rightE (l : List S49) : Int × Int := if l.length > 16 then (8, 0) else ((List.range l.length).findSome? (faultAt l)).getD (0, 0)
theorem oneE_ne {x : S49} (h : namedB x.f0 64 false = false) : oneE x = 40 := by unfold oneE; rw [h]; rfl
theorem ix_prev {α : Type} {l : List α} {i : Nat} (h0 : 0 < i) (hi : i < 4294967296) : ix l (IntKind.wrap .i64 ((i : Int) - 1)) = l[i - 1]? := by
  rw [wrap64 (by omega) (by omega), show (i : Int) - 1 = ((i - 1 : Nat) : Int) by omega, ix_nat]
theorem Right_eq (l : List S49) : labels_Right l = some (rightE l) := by
  unfold labels_Right rightE
  by_cases hl : l.length > 16
  · simp [hl, show decide ((l.length : Int) > 16) = true from decide_eq_true (by omega)]
  · rw [show decide ((l.length : Int) > 16) = false from decide_eq_false (by omega), if_neg hl]
    simp only [cond_false]
    rw [up_find (n := l.length) (faultAt l) (fun i hi => ?_) ?_]
    · simp only [Option.bind_some]
      cases (List.range l.length).findSome? (faultAt l) <;> rfl
    · unfold labels_Right_l18
      rw [show decide ((l.length : Int) < (l.length : Int)) = false from decide_eq_false (by omega)]
      rfl
    · unfold labels_Right_l18 faultAt
      have hx : l[i]? = some l[i] := List.getElem?_eq_getElem hi
      rw [show decide ((i : Int) < (l.length : Int)) = true from decide_eq_true (by omega)]
      simp only [cond_true, ix_nat, hx, Option.bind_some, Name_eq, value_eq]
      cases hn : namedB l[i].f0 64 false with
      | false => rw [oneE_ne hn]; rfl
      | true =>
        have ho : oneE l[i] = valueE l[i].f1 := by unfold oneE; rw [hn]; rfl
        rw [ho]
        simp only [Bool.not_true, cond_false]
        by_cases hv : valueE l[i].f1 = 0
        · have e2 : (valueE l[i].f1 != 0) = false := by simp [hv]
          rw [if_neg (by simpa using hv)]
          simp only [e2, cond_false, wrap_up (show i < 4294967296 by omega)]
          by_cases hi0 : i = 0
          · subst hi0
            simp
          · have e3 : decide ((i : Int) > 0) = true := decide_eq_true (by omega)
            have hy : l[i - 1]? = some (l[i - 1]'(by omega)) := List.getElem?_eq_getElem (by omega)
            rw [if_neg hi0]
            simp only [e3, cond_true, ix_prev (show 0 < i by omega) (show i < 4294967296 by omega), hy, Option.bind_some, less_eq, beq_eq]
            have hs := cmpS_swap (l[i - 1]'(by omega)).f0 l[i].f0
            have hr := cmpS_range (l[i - 1]'(by omega)).f0 l[i].f0
            by_cases hc : cmpS (l[i - 1]'(by omega)).f0 l[i].f0 = -1
            · rw [if_pos hc]
              have : (decide (cmpS l[i].f0 (l[i - 1]'(by omega)).f0 = -1) || decide (cmpS l[i].f0 (l[i - 1]'(by omega)).f0 = 0)) = false := by
                rw [Bool.eq_false_iff]; simp only [ne_eq, Bool.or_eq_true, decide_eq_true_eq]; omega
              rw [this]; rfl
            · rw [if_neg hc]
              have : (decide (cmpS l[i].f0 (l[i - 1]'(by omega)).f0 = -1) || decide (cmpS l[i].f0 (l[i - 1]'(by omega)).f0 = 0)) = true := by
                simp only [Bool.or_eq_true, decide_eq_true_eq]; omega
              rw [this]; rfl
        · have e2 : (valueE l[i].f1 != 0) = true := by simpa using hv
          rw [if_pos hv]
          simp only [e2, cond_true]
theorem refRight_eq (l : List S49) : tocsinref04_Right l = some (rightE l) := by
  unfold tocsinref04_Right rightE
  by_cases hl : l.length > 16
  · simp [hl, show decide ((l.length : Int) > 16) = true from decide_eq_true (by omega)]
  · rw [show decide ((l.length : Int) > 16) = false from decide_eq_false (by omega), if_neg hl]
    simp only [cond_false]
    rw [up_find (n := l.length) (faultAt l) (fun i hi => ?_) ?_]
    · simp only [Option.bind_some]
      cases (List.range l.length).findSome? (faultAt l) <;> rfl
    · unfold tocsinref04_Right_l18
      rw [show decide ((l.length : Int) < (l.length : Int)) = false from decide_eq_false (by omega)]
      rfl
    · unfold tocsinref04_Right_l18 faultAt
      have hx : l[i]? = some l[i] := List.getElem?_eq_getElem hi
      rw [show decide ((i : Int) < (l.length : Int)) = true from decide_eq_true (by omega)]
      simp only [cond_true, ix_nat, hx, Option.bind_some, refOne_eq]
      by_cases hv : oneE l[i] = 0
      · have e2 : (oneE l[i] != 0) = false := by simp [hv]
        rw [if_neg (by simpa using hv)]
        simp only [e2, cond_false, wrap_up (show i < 4294967296 by omega)]
        by_cases hi0 : i = 0
        · subst hi0
          simp
        · have e3 : decide ((i : Int) > 0) = true := decide_eq_true (by omega)
          have hy : l[i - 1]? = some (l[i - 1]'(by omega)) := List.getElem?_eq_getElem (by omega)
          rw [if_neg hi0]
          simp only [e3, cond_true, ix_prev (show 0 < i by omega) (show i < 4294967296 by omega), hy, Option.bind_some, less_eq]
          by_cases hc : cmpS (l[i - 1]'(by omega)).f0 l[i].f0 = -1
          · rw [if_pos hc, decide_eq_true hc]; rfl
          · rw [if_neg hc, decide_eq_false hc]; rfl
      · have e2 : (oneE l[i] != 0) = true := by simpa using hv
        rw [if_pos hv]
        simp only [e2, cond_true]
end Go.Proofs.YtnlkfajnaelnnaaGreatDoor

/- Plain laws, base: words of bits; numbers in few bytes. -/
set_option linter.unusedVariables false
namespace Go.GB
theorem shr_nat (k : IntKind) (a n : Nat) (hn : n ≤ k.bits) : shr k (a : Int) (n : Int) = ((a / 2 ^ n : Nat) : Int) := by
  unfold shr
  rw [Int.toNat_natCast, Nat.min_eq_left hn, Int.fdiv_eq_ediv_of_nonneg _ (by exact Int.pow_nonneg (by omega))]
  norm_cast
theorem app_eq {α : Type} {xs ys : List α} (h : xs.length + ys.length ≤ 2147483648) : app xs ys = some (xs ++ ys) := by unfold app maxLen'; rw [if_pos (by simpa using h)]
end Go.GB

/- Stable sorting: what is a stable sort of a list, and that there is one alone. -/
set_option linter.unusedVariables false
namespace Go.GB
section
variable {α : Type}
/-- A strict weak order. -/
structure Swo (lt : α → α → Bool) : Prop where
  asymm : ∀ a b, lt a b = true → lt b a = false
  trans : ∀ a b c, lt b a = false → lt c b = false → lt c a = false
variable {lt : α → α → Bool}
theorem Swo.irrefl (h : Swo lt) (a : α) : lt a a = false := by
  cases e : lt a a with
  | false => rfl
  | true => have := h.asymm a a e; rw [e] at this; exact this
/-- x < y, y ≤ z: x < z. -/
theorem Swo.lt_le (h : Swo lt) {a b c : α} (h1 : lt a b = true) (h2 : lt c b = false) : lt a c = true := by
  cases e : lt a c with
  | true => rfl
  | false => have := h.trans b c a h2 e; rw [h1] at this; cases this
theorem Swo.le_lt (h : Swo lt) {a b c : α} (h1 : lt b a = false) (h2 : lt b c = true) : lt a c = true := by
  cases e : lt a c with
  | true => rfl
  | false => have := h.trans c a b e h1; rw [h2] at this; cases this
def eqv (lt : α → α → Bool) (k x : α) : Bool := !lt k x && !lt x k
theorem eqv_iff {k x : α} : eqv lt k x = true ↔ lt k x = false ∧ lt x k = false := by simp [eqv]
theorem Swo.eqv_self (h : Swo lt) (a : α) : eqv lt a a = true := by simp [eqv, h.irrefl]
def Sorted (lt : α → α → Bool) (l : List α) : Prop := l.Pairwise fun a b => lt b a = false
def FE (lt : α → α → Bool) (l m : List α) : Prop := ∀ k, l.filter (eqv lt k) = m.filter (eqv lt k)
theorem FE.refl (l : List α) : FE lt l l := fun _ => rfl
theorem FE.symm {l m : List α} (h : FE lt l m) : FE lt m l := fun k => (h k).symm
theorem FE.trans {l m n : List α} (h : FE lt l m) (h' : FE lt m n) : FE lt l n := fun k => (h k).trans (h' k)
theorem FE.append {l m l' m' : List α} (h : FE lt l m) (h' : FE lt l' m') : FE lt (l ++ l') (m ++ m') := fun k => by rw [List.filter_append, List.filter_append, h k, h' k]
theorem FE.mid {P S l m : List α} (h : FE lt l m) : FE lt (P ++ l ++ S) (P ++ m ++ S) := ((FE.refl P).append h).append (FE.refl S)
theorem FE.mem (hs : Swo lt) {l m : List α} (h : FE lt l m) {x : α} (hx : x ∈ l) : x ∈ m := by
  have : x ∈ l.filter (eqv lt x) := List.mem_filter.2 ⟨hx, hs.eqv_self x⟩
  rw [h x] at this
  exact (List.mem_filter.1 this).1
/-- Two parts of which one stands all below the other change places. -/
theorem FE.swap (hs : Swo lt) {X Y : List α} (h : ∀ x ∈ X, ∀ y ∈ Y, lt y x = true) : FE lt (X ++ Y) (Y ++ X) := fun k => by
  rw [List.filter_append, List.filter_append]
  by_cases hx : X.filter (eqv lt k) = []
  · rw [hx]; simp
  · have hy : Y.filter (eqv lt k) = [] := by
      rw [List.filter_eq_nil_iff]
      intro y hy hk
      obtain ⟨x, hx'⟩ := List.exists_mem_of_ne_nil _ hx
      obtain ⟨hxX, hxk⟩ := List.mem_filter.1 hx'
      have h1 := h x hxX y hy
      have h2 := hs.trans x k y (eqv_iff.1 hxk).1 (eqv_iff.1 hk).2
      rw [h1] at h2; cases h2
    rw [hy]; simp
theorem Sorted.uniq (hs : Swo lt) : ∀ {a b : List α}, Sorted lt a → Sorted lt b → FE lt a b → a = b
  | [], [], _, _, _ => rfl
  | [], y :: b, _, _, h => by have := h.symm.mem hs (x := y) (by simp); cases this
  | x :: a, [], _, _, h => by have := h.mem hs (x := x) (by simp); cases this
  | x :: a, y :: b, ha, hb, h => by
    have ha' := List.pairwise_cons.1 ha
    have hb' := List.pairwise_cons.1 hb
    have hxy : lt x y = false := by
      rcases List.mem_cons.1 (h.mem hs (x := x) (by simp)) with rfl | hx
      · exact hs.irrefl _
      · exact hb'.1 x hx
    have hyx : lt y x = false := by
      rcases List.mem_cons.1 (h.symm.mem hs (x := y) (by simp)) with rfl | hy
      · exact hs.irrefl _
      · exact ha'.1 y hy
    have e1 := h x
    rw [List.filter_cons_of_pos (hs.eqv_self x), List.filter_cons_of_pos (eqv_iff.2 ⟨hxy, hyx⟩)] at e1
    simp only [List.cons.injEq] at e1
    obtain ⟨rfl, _⟩ := e1
    congr 1
    refine Sorted.uniq hs ha'.2 hb'.2 fun k => ?_
    have e2 := h k
    by_cases hk : eqv lt k x = true
    · rw [List.filter_cons_of_pos hk, List.filter_cons_of_pos hk] at e2
      simpa using e2
    · rw [List.filter_cons_of_neg hk, List.filter_cons_of_neg hk] at e2
      exact e2
/-- m is l, stably sorted. -/
def StS (lt : α → α → Bool) (l m : List α) : Prop := FE lt m l ∧ Sorted lt m
theorem StS.uniq (hs : Swo lt) {l a b : List α} (ha : StS lt l a) (hb : StS lt l b) : a = b := Sorted.uniq hs ha.2 hb.2 (ha.1.trans hb.1.symm)
theorem FE.length (hs : Swo lt) : ∀ (n : Nat) {a b : List α}, a.length = n → FE lt a b → b.length = n
  | 0, a, b, hn, h => by
    cases b with
    | nil => rfl
    | cons y b => have := h.symm.mem hs (x := y) (by simp); rw [List.length_eq_zero_iff.1 hn] at this; cases this
  | n + 1, a, b, hn, h => by
    cases a with
    | nil => cases hn
    | cons x a =>
      have hx := h.mem hs (x := x) (by simp)
      have hne : b.filter (eqv lt x) ≠ [] := fun e => by
        have : x ∈ b.filter (eqv lt x) := List.mem_filter.2 ⟨hx, hs.eqv_self x⟩
        rw [e] at this; cases this
      -- the first of x's class in b is x
      have e1 := h x
      rw [List.filter_cons_of_pos (hs.eqv_self x)] at e1
      obtain ⟨b1, b2, hb, hb1⟩ : ∃ b1 b2, b = b1 ++ x :: b2 ∧ ∀ z ∈ b1, eqv lt x z = false := by
        clear hn h hx hne
        induction b with
        | nil => cases e1
        | cons z b ih =>
          by_cases hz : eqv lt x z = true
          · rw [List.filter_cons_of_pos hz] at e1
            simp only [List.cons.injEq] at e1
            obtain ⟨rfl, _⟩ := e1
            exact ⟨[], b, rfl, fun z hz => by cases hz⟩
          · rw [List.filter_cons_of_neg hz] at e1
            obtain ⟨b1, b2, rfl, h1⟩ := ih e1
            exact ⟨z :: b1, b2, rfl, fun w hw => by
              rcases List.mem_cons.1 hw with rfl | hw
              · simpa using hz
              · exact h1 w hw⟩
      have h2 : FE lt a (b1 ++ b2) := fun k => by
        have e2 := h k
        rw [hb, List.filter_append] at e2
        rw [List.filter_append]
        by_cases hk : eqv lt k x = true
        · rw [List.filter_cons_of_pos hk, List.filter_cons_of_pos hk] at e2
          have h0 : b1.filter (eqv lt k) = [] := by
            rw [List.filter_eq_nil_iff]
            intro z hz hkz
            have h1 := hb1 z hz
            have h3 := eqv_iff.1 hk
            have h4 := eqv_iff.1 hkz
            have : eqv lt x z = true := eqv_iff.2 ⟨hs.trans z k x h4.1 h3.2, hs.trans x k z h3.1 h4.2⟩
            rw [this] at h1; cases h1
          rw [h0] at e2 ⊢
          simpa using e2
        · rw [List.filter_cons_of_neg hk, List.filter_cons_of_neg hk] at e2
          exact e2
      have := FE.length hs n (by simpa using hn) h2
      rw [hb]; simp at this ⊢; omega
end
end Go.GB

/- Stable sorting: the library's swaps, rotations and binary searches. -/
set_option linter.unusedVariables false
namespace Go.GB
noncomputable def gswapRange_l25 {α : Type} (cf : α → α → Int) (a1 : Int) (a2 : Int) (a3 : Int) : ((List α) × Int) → Option (((List α) × Int) ⊕ ((List α))) := fun s10 =>
  bif (decide (s10.2 < a3)) then
  (Option.bind (ix s10.1 (IntKind.wrap .i64 (a2 + s10.2))) fun (x28 : α) =>
    Option.bind (ix s10.1 (IntKind.wrap .i64 (a1 + s10.2))) fun (x37 : α) =>
    Option.bind (ix s10.1 (IntKind.wrap .i64 (a1 + s10.2))) fun (x46 : α) =>
    Option.bind (ix (lset s10.1 (IntKind.wrap .i64 (a1 + s10.2)) x28) (IntKind.wrap .i64 (a2 + s10.2))) fun (x58 : α) =>
    some (Sum.inl ((lset (lset s10.1 (IntKind.wrap .i64 (a1 + s10.2)) x28) (IntKind.wrap .i64 (a2 + s10.2)) x37), (IntKind.wrap .i64 (s10.2 + 1)))))
  else
  (some (Sum.inr s10.1))
noncomputable def gswapRange {α : Type} (cf : α → α → Int) (a0 : List α) (a1 : Int) (a2 : Int) (a3 : Int) : Option (List α) :=
  Option.bind (loopO (gswapRange_l25 cf a1 a2 a3) (a0, 0)) fun (r8 : (List α)) =>
  some r8
noncomputable def grotate_l25 {α : Type} (cf : α → α → Int) (a2 : Int) : ((List α) × Int × Int) → Option (((List α) × Int × Int) ⊕ ((List α) × Int)) := fun s10 =>
  bif (s10.2.1 != s10.2.2) then
  (Option.bind (bif (decide (s10.2.1 > s10.2.2)) then
      (Option.bind (gswapRange cf s10.1 (IntKind.wrap .i64 (a2 - s10.2.1)) a2 s10.2.2) fun (y37 : (List α)) =>
        some (y37, (IntKind.wrap .i64 (s10.2.1 - s10.2.2)), s10.2.2))
      else
      (Option.bind (gswapRange cf s10.1 (IntKind.wrap .i64 (a2 - s10.2.1)) (IntKind.wrap .i64 ((IntKind.wrap .i64 (a2 + s10.2.2)) - s10.2.1)) s10.2.1) fun (y45 : (List α)) =>
        some (y45, s10.2.1, (IntKind.wrap .i64 (s10.2.2 - s10.2.1))))) fun (j28 : (List α) × Int × Int) =>
    some (Sum.inl (j28.1, j28.2.1, j28.2.2)))
  else
  (some (Sum.inr (s10.1, s10.2.1)))
noncomputable def grotate {α : Type} (cf : α → α → Int) (a0 : List α) (a1 : Int) (a2 : Int) (a3 : Int) : Option (List α) :=
  Option.bind (loopO (grotate_l25 cf a2) (a0, (IntKind.wrap .i64 (a2 - a1)), (IntKind.wrap .i64 (a3 - a2)))) fun (r8 : (List α) × Int) =>
  Option.bind (gswapRange cf r8.1 (IntKind.wrap .i64 (a2 - r8.2)) a2 r8.2) fun (y53 : (List α)) =>
  some y53
noncomputable def gsymMerge_l17 {α : Type} (cf : α → α → Int) (a0 : List α) (a1 : Int) : (Int × Int) → Option ((Int × Int) ⊕ (Int)) := fun s8 =>
  bif (decide (s8.1 < s8.2)) then
  (Option.bind (ix a0 (IntKind.wrap .i64 (shr .u64 (IntKind.wrap .u64 (IntKind.wrap .i64 (s8.1 + s8.2))) 1))) fun (x20 : α) =>
    Option.bind (ix a0 a1) fun (x29 : α) =>
    Option.bind (bif (decide ((cf x20 x29) < 0)) then
      (some ((IntKind.wrap .i64 ((IntKind.wrap .i64 (shr .u64 (IntKind.wrap .u64 (IntKind.wrap .i64 (s8.1 + s8.2))) 1)) + 1)), s8.2))
      else
      (some (s8.1, (IntKind.wrap .i64 (shr .u64 (IntKind.wrap .u64 (IntKind.wrap .i64 (s8.1 + s8.2))) 1))))) fun (j38 : Int × Int) =>
    some (Sum.inl (j38.1, j38.2)))
  else
  (some (Sum.inr s8.1))
noncomputable def gsymMerge_l68 {α : Type} (cf : α → α → Int) (r6 : Int) : ((List α) × Int) → Option (((List α) × Int) ⊕ ((List α))) := fun s53 =>
  bif (decide (s53.2 < (IntKind.wrap .i64 (r6 - 1)))) then
  (Option.bind (ix s53.1 (IntKind.wrap .i64 (s53.2 + 1))) fun (x71 : α) =>
    Option.bind (ix s53.1 s53.2) fun (x80 : α) =>
    Option.bind (ix s53.1 s53.2) fun (x89 : α) =>
    Option.bind (ix (lset s53.1 s53.2 x71) (IntKind.wrap .i64 (s53.2 + 1))) fun (x101 : α) =>
    some (Sum.inl ((lset (lset s53.1 s53.2 x71) (IntKind.wrap .i64 (s53.2 + 1)) x80), (IntKind.wrap .i64 (s53.2 + 1)))))
  else
  (some (Sum.inr s53.1))
noncomputable def gsymMerge_l129 {α : Type} (cf : α → α → Int) (a0 : List α) (a2 : Int) : (Int × Int) → Option ((Int × Int) ⊕ (Int)) := fun s120 =>
  bif (decide (s120.1 < s120.2)) then
  (Option.bind (ix a0 a2) fun (x132 : α) =>
    Option.bind (ix a0 (IntKind.wrap .i64 (shr .u64 (IntKind.wrap .u64 (IntKind.wrap .i64 (s120.1 + s120.2))) 1))) fun (x141 : α) =>
    Option.bind (bif (!(decide ((cf x132 x141) < 0))) then
      (some ((IntKind.wrap .i64 ((IntKind.wrap .i64 (shr .u64 (IntKind.wrap .u64 (IntKind.wrap .i64 (s120.1 + s120.2))) 1)) + 1)), s120.2))
      else
      (some (s120.1, (IntKind.wrap .i64 (shr .u64 (IntKind.wrap .u64 (IntKind.wrap .i64 (s120.1 + s120.2))) 1))))) fun (j150 : Int × Int) =>
    some (Sum.inl (j150.1, j150.2)))
  else
  (some (Sum.inr s120.1))
noncomputable def gsymMerge_l180 {α : Type} (cf : α → α → Int) (r118 : Int) : ((List α) × Int) → Option (((List α) × Int) ⊕ ((List α))) := fun s165 =>
  bif (decide (s165.2 > r118)) then
  (Option.bind (ix s165.1 (IntKind.wrap .i64 (s165.2 - 1))) fun (x183 : α) =>
    Option.bind (ix s165.1 s165.2) fun (x192 : α) =>
    Option.bind (ix s165.1 s165.2) fun (x201 : α) =>
    Option.bind (ix (lset s165.1 s165.2 x183) (IntKind.wrap .i64 (s165.2 - 1))) fun (x213 : α) =>
    some (Sum.inl ((lset (lset s165.1 s165.2 x183) (IntKind.wrap .i64 (s165.2 - 1)) x192), (IntKind.wrap .i64 (s165.2 - 1)))))
  else
  (some (Sum.inr s165.1))
noncomputable def gsymMerge_l246 {α : Type} (cf : α → α → Int) (a0 : List α) (a1 : Int) (a2 : Int) (a3 : Int) : (Int × Int) → Option ((Int × Int) ⊕ (Int)) := fun s237 =>
  bif (decide (s237.1 < s237.2)) then
  (Option.bind (ix a0 (IntKind.wrap .i64 ((IntKind.wrap .i64 ((IntKind.wrap .i64 ((IntKind.wrap .i64 (shr .u64 (IntKind.wrap .u64 (IntKind.wrap .i64 (a1 + a3))) 1)) + a2)) - 1)) - (IntKind.wrap .i64 (shr .u64 (IntKind.wrap .u64 (IntKind.wrap .i64 (s237.1 + s237.2))) 1))))) fun (x249 : α) =>
    Option.bind (ix a0 (IntKind.wrap .i64 (shr .u64 (IntKind.wrap .u64 (IntKind.wrap .i64 (s237.1 + s237.2))) 1))) fun (x258 : α) =>
    Option.bind (bif (!(decide ((cf x249 x258) < 0))) then
      (some ((IntKind.wrap .i64 ((IntKind.wrap .i64 (shr .u64 (IntKind.wrap .u64 (IntKind.wrap .i64 (s237.1 + s237.2))) 1)) + 1)), s237.2))
      else
      (some (s237.1, (IntKind.wrap .i64 (shr .u64 (IntKind.wrap .u64 (IntKind.wrap .i64 (s237.1 + s237.2))) 1))))) fun (j267 : Int × Int) =>
    some (Sum.inl (j267.1, j267.2)))
  else
  (some (Sum.inr s237.1))
noncomputable def gsymMerge_b {α : Type} (cf : α → α → Int) (rec_ : (List α) → Int → Int → Int → Option (List α)) (a0 : List α) (a1 : Int) (a2 : Int) (a3 : Int) : Option (List α) :=
  bif ((IntKind.wrap .i64 (a2 - a1)) == 1) then
  (Option.bind (loopO (gsymMerge_l17 cf a0 a1) (a2, a3)) fun (r6 : Int) =>
    Option.bind (loopO (gsymMerge_l68 cf r6) (a0, a1)) fun (r51 : (List α)) =>
    some r51)
  else
  (bif ((IntKind.wrap .i64 (a3 - a2)) == 1) then
    (Option.bind (loopO (gsymMerge_l129 cf a0 a2) (a1, a2)) fun (r118 : Int) =>
      Option.bind (loopO (gsymMerge_l180 cf r118) (a0, a2)) fun (r163 : (List α)) =>
      some r163)
    else
    (Option.bind (bif (decide (a2 > (IntKind.wrap .i64 (shr .u64 (IntKind.wrap .u64 (IntKind.wrap .i64 (a1 + a3))) 1)))) then
        (some ((IntKind.wrap .i64 ((IntKind.wrap .i64 ((IntKind.wrap .i64 (shr .u64 (IntKind.wrap .u64 (IntKind.wrap .i64 (a1 + a3))) 1)) + a2)) - a3)), (IntKind.wrap .i64 (shr .u64 (IntKind.wrap .u64 (IntKind.wrap .i64 (a1 + a3))) 1))))
        else
        (some (a1, a2))) fun (j225 : Int × Int) =>
      Option.bind (loopO (gsymMerge_l246 cf a0 a1 a2 a3) (j225.1, j225.2)) fun (r235 : Int) =>
      Option.bind (bif ((decide (r235 < a2)) && (decide (a2 < (IntKind.wrap .i64 ((IntKind.wrap .i64 ((IntKind.wrap .i64 (shr .u64 (IntKind.wrap .u64 (IntKind.wrap .i64 (a1 + a3))) 1)) + a2)) - r235))))) then
        (Option.bind (grotate cf a0 r235 a2 (IntKind.wrap .i64 ((IntKind.wrap .i64 ((IntKind.wrap .i64 (shr .u64 (IntKind.wrap .u64 (IntKind.wrap .i64 (a1 + a3))) 1)) + a2)) - r235))) fun (y288 : (List α)) =>
          some y288)
        else
        (some a0)) fun (j279 : (List α)) =>
      Option.bind (bif ((decide (a1 < r235)) && (decide (r235 < (IntKind.wrap .i64 (shr .u64 (IntKind.wrap .u64 (IntKind.wrap .i64 (a1 + a3))) 1))))) then
        (Option.bind (rec_ j279 a1 r235 (IntKind.wrap .i64 (shr .u64 (IntKind.wrap .u64 (IntKind.wrap .i64 (a1 + a3))) 1))) fun (y311 : (List α)) =>
          some y311)
        else
        (some j279)) fun (j302 : (List α)) =>
      Option.bind (bif ((decide ((IntKind.wrap .i64 (shr .u64 (IntKind.wrap .u64 (IntKind.wrap .i64 (a1 + a3))) 1)) < (IntKind.wrap .i64 ((IntKind.wrap .i64 ((IntKind.wrap .i64 (shr .u64 (IntKind.wrap .u64 (IntKind.wrap .i64 (a1 + a3))) 1)) + a2)) - r235)))) && (decide ((IntKind.wrap .i64 ((IntKind.wrap .i64 ((IntKind.wrap .i64 (shr .u64 (IntKind.wrap .u64 (IntKind.wrap .i64 (a1 + a3))) 1)) + a2)) - r235)) < a3))) then
        (Option.bind (rec_ j302 (IntKind.wrap .i64 (shr .u64 (IntKind.wrap .u64 (IntKind.wrap .i64 (a1 + a3))) 1)) (IntKind.wrap .i64 ((IntKind.wrap .i64 ((IntKind.wrap .i64 (shr .u64 (IntKind.wrap .u64 (IntKind.wrap .i64 (a1 + a3))) 1)) + a2)) - r235)) a3) fun (y334 : (List α)) =>
          some y334)
        else
        (some j302)) fun (j325 : (List α)) =>
      some j325))
noncomputable def gsymMerge {α : Type} (cf : α → α → Int) (a0 : List α) (a1 : Int) (a2 : Int) (a3 : Int) : Option (List α) :=
  iterF (fun (rec_ : ((List α) × Int × Int × Int) → Option (List α)) (x : (List α) × Int × Int × Int) => gsymMerge_b cf (fun a0 a1 a2 a3 => rec_ (a0, a1, a2, a3)) x.1 x.2.1 x.2.2.1 x.2.2.2) 4294967296 (a0, a1, a2, a3)
noncomputable def ginsertionSort_l52 {α : Type} (cf : α → α → Int) (a1 : Int) : ((List α) × Int) → Option (((List α) × Int) ⊕ ((List α))) := fun s37 =>
  Option.bind (bif (decide (s37.2 > a1)) then
    (Option.bind (ix s37.1 s37.2) fun (x60 : α) =>
      Option.bind (ix s37.1 (IntKind.wrap .i64 (s37.2 - 1))) fun (x69 : α) =>
      some (decide ((cf x60 x69) < 0)))
    else
    (some false)) fun (j54 : Bool) =>
  bif j54 then
  (Option.bind (ix s37.1 (IntKind.wrap .i64 (s37.2 - 1))) fun (x79 : α) =>
    Option.bind (ix s37.1 s37.2) fun (x88 : α) =>
    Option.bind (ix s37.1 s37.2) fun (x97 : α) =>
    Option.bind (ix (lset s37.1 s37.2 x79) (IntKind.wrap .i64 (s37.2 - 1))) fun (x109 : α) =>
    some (Sum.inl ((lset (lset s37.1 s37.2 x79) (IntKind.wrap .i64 (s37.2 - 1)) x88), (IntKind.wrap .i64 (s37.2 - 1)))))
  else
  (some (Sum.inr s37.1))
noncomputable def ginsertionSort_l25 {α : Type} (cf : α → α → Int) (a1 : Int) (a2 : Int) : ((List α) × Int) → Option (((List α) × Int) ⊕ ((List α))) := fun s10 =>
  bif (decide (s10.2 < a2)) then
  (Option.bind (loopO (ginsertionSort_l52 cf a1) (s10.1, s10.2)) fun (r35 : (List α)) =>
    some (Sum.inl (r35, (IntKind.wrap .i64 (s10.2 + 1)))))
  else
  (some (Sum.inr s10.1))
noncomputable def ginsertionSort {α : Type} (cf : α → α → Int) (a0 : List α) (a1 : Int) (a2 : Int) : Option (List α) :=
  Option.bind (loopO (ginsertionSort_l25 cf a1 a2) (a0, (IntKind.wrap .i64 (a1 + 1)))) fun (r8 : (List α)) =>
  some r8
noncomputable def gstable_l25 {α : Type} (cf : α → α → Int) (a1 : Int) : ((List α) × Int × Int) → Option (((List α) × Int × Int) ⊕ ((List α) × Int)) := fun s10 =>
  bif (decide (s10.2.2 ≤ a1)) then
  (Option.bind (ginsertionSort cf s10.1 s10.2.1 s10.2.2) fun (y28 : (List α)) =>
    some (Sum.inl (y28, s10.2.2, (IntKind.wrap .i64 (s10.2.2 + 20)))))
  else
  (some (Sum.inr (s10.1, s10.2.1)))
noncomputable def gstable_l95 {α : Type} (cf : α → α → Int) (a1 : Int) (s53 : (List α) × Int) : ((List α) × Int × Int) → Option (((List α) × Int × Int) ⊕ ((List α) × Int)) := fun s80 =>
  bif (decide (s80.2.2 ≤ a1)) then
  (Option.bind (gsymMerge cf s80.1 s80.2.1 (IntKind.wrap .i64 (s80.2.1 + s53.2)) s80.2.2) fun (y98 : (List α)) =>
    some (Sum.inl (y98, s80.2.2, (IntKind.wrap .i64 (s80.2.2 + (IntKind.wrap .i64 (2 * s53.2)))))))
  else
  (some (Sum.inr (s80.1, s80.2.1)))
noncomputable def gstable_l68 {α : Type} (cf : α → α → Int) (a1 : Int) : ((List α) × Int) → Option (((List α) × Int) ⊕ ((List α))) := fun s53 =>
  bif (decide (s53.2 < a1)) then
  (Option.bind (loopO (gstable_l95 cf a1 s53) (s53.1, 0, (IntKind.wrap .i64 (2 * s53.2)))) fun (r78 : (List α) × Int) =>
    Option.bind (bif (decide ((IntKind.wrap .i64 (r78.2 + s53.2)) < a1)) then
      (Option.bind (gsymMerge cf r78.1 r78.2 (IntKind.wrap .i64 (r78.2 + s53.2)) a1) fun (y115 : (List α)) =>
        some y115)
      else
      (some r78.1)) fun (j106 : (List α)) =>
    some (Sum.inl (j106, (IntKind.wrap .i64 (s53.2 * 2)))))
  else
  (some (Sum.inr s53.1))
noncomputable def gstable {α : Type} (cf : α → α → Int) (a0 : List α) (a1 : Int) : Option (List α) :=
  Option.bind (loopO (gstable_l25 cf a1) (a0, 0, 20)) fun (r8 : (List α) × Int) =>
  Option.bind (ginsertionSort cf r8.1 r8.2 a1) fun (y36 : (List α)) =>
  Option.bind (loopO (gstable_l68 cf a1) (y36, 20)) fun (r51 : (List α)) =>
  some r51
noncomputable def gSortStable {α : Type} (cf : α → α → Int) (a0 : List α) : Option (List α) :=
  Option.bind (gstable cf a0 (a0.length : Int)) fun (y1 : (List α)) =>
  some y1
section
variable {α : Type} {cf : α → α → Int}
theorem ix_at {l A B : List α} {x : α} {i : Int} (hl : l = A ++ x :: B) (hi : i = (A.length : Int)) : ix l i = some x := by
  subst hl; subst hi; rw [ix_nat]; simp
theorem lset_at {l A B : List α} {x y : α} {i : Int} (hl : l = A ++ x :: B) (hi : i = (A.length : Int)) : lset l i y = A ++ y :: B := by
  subst hl; subst hi; simp [lset]
/-- Two elements change places. -/
theorem ex_up {l A B C : List α} {x y : α} {i j : Int} (hl : l = A ++ x :: (B ++ y :: C)) (hi : i = (A.length : Int)) (hj : j = ((A.length + 1 + B.length : Nat) : Int)) :
    ix l i = some x ∧ ix l j = some y ∧ ix (lset l i y) j = some y ∧ lset (lset l i y) j x = A ++ y :: (B ++ x :: C) := by
  have h1 : lset l i y = (A ++ y :: B) ++ y :: C := by rw [lset_at hl hi]; simp
  have hj' : j = ((A ++ y :: B).length : Int) := by rw [hj]; simp; omega
  refine ⟨ix_at hl hi, ix_at (A := A ++ x :: B) (B := C) (by rw [hl]; simp) (by rw [hj]; simp; omega), ix_at h1 hj', ?_⟩
  rw [lset_at h1 hj']; simp
theorem ex_down {l A B C : List α} {x y : α} {i j : Int} (hl : l = A ++ x :: (B ++ y :: C)) (hi : i = (A.length : Int)) (hj : j = ((A.length + 1 + B.length : Nat) : Int)) :
    ix l i = some x ∧ ix l j = some y ∧ ix (lset l j x) i = some x ∧ lset (lset l j x) i y = A ++ y :: (B ++ x :: C) := by
  have h0 : ix l j = some y := ix_at (A := A ++ x :: B) (B := C) (by rw [hl]; simp) (by rw [hj]; simp; omega)
  have h1 : lset l j x = A ++ x :: (B ++ x :: C) := by
    rw [lset_at (A := A ++ x :: B) (B := C) (x := y) (by rw [hl]; simp) (by rw [hj]; simp; omega)]; simp
  refine ⟨ix_at hl hi, h0, ix_at h1 hi, ?_⟩
  rw [lset_at h1 hi]
/-- Exchange of two ranges of one length. -/
theorem gswapRange_loop (P M S : List α) (a b n : Nat) (ha : a = P.length) (hb : b = P.length + n + M.length) (hn : b + n < 4294967296) :
    ∀ (X2 Y2 X1 Y1 : List α), X2.length = Y2.length → X1.length = Y1.length → n = X1.length + X2.length →
      loopO (gswapRange_l25 cf (a : Int) (b : Int) (n : Int)) (P ++ (Y1 ++ (X2 ++ (M ++ (X1 ++ (Y2 ++ S))))), (X1.length : Int)) = some (P ++ ((Y1 ++ Y2) ++ (M ++ ((X1 ++ X2) ++ S)))) := by
  intro X2
  induction X2 with
  | nil =>
    intro Y2 X1 Y1 h2 h1 hn'
    have : Y2 = [] := List.length_eq_zero_iff.1 h2.symm
    subst this
    rw [loopO_done (r := P ++ (Y1 ++ ([] ++ (M ++ (X1 ++ ([] ++ S)))))) (by
      unfold gswapRange_l25
      rw [show decide (((X1.length : Nat) : Int) < (n : Int)) = false from decide_eq_false (by simp at hn'; omega)]; rfl)]
    simp
  | cons x X2 ih =>
    intro Y2 X1 Y1 h2 h1 hn'
    cases Y2 with
    | nil => cases h2
    | cons y Y2 =>
      simp only [List.length_cons, Nat.add_right_cancel_iff] at h2
      simp only [List.length_cons] at hn'
      have hl : P ++ (Y1 ++ (x :: X2 ++ (M ++ (X1 ++ (y :: Y2 ++ S))))) = (P ++ Y1) ++ x :: ((X2 ++ M ++ X1) ++ y :: (Y2 ++ S)) := by simp
      have ei : IntKind.wrap .i64 ((a : Int) + ((X1.length : Nat) : Int)) = ((P ++ Y1).length : Int) := by rw [wrap64 (by omega) (by omega), List.length_append]; omega
      have ej : IntKind.wrap .i64 ((b : Int) + ((X1.length : Nat) : Int)) = (((P ++ Y1).length + 1 + (X2 ++ M ++ X1).length : Nat) : Int) := by rw [wrap64 (by omega) (by omega)]; simp only [List.length_append]; omega
      obtain ⟨e1, e2, e3, e4⟩ := ex_up hl ei ej
      rw [loopO_step (s' := (P ++ ((Y1 ++ [y]) ++ (X2 ++ (M ++ ((X1 ++ [x]) ++ (Y2 ++ S))))), ((X1 ++ [x]).length : Int))) (by
        unfold gswapRange_l25
        rw [show decide (((X1.length : Nat) : Int) < (n : Int)) = true from decide_eq_true (by omega)]
        simp only [cond_true, e1, e2, Option.bind_some, e3, e4, wrap_up (show X1.length < 4294967296 by omega)]
        simp)]
      rw [ih Y2 (X1 ++ [x]) (Y1 ++ [y]) h2 (by simp; omega) (by simp; omega)]
      simp
theorem gswapRange_eq {l P X M Y S : List α} {a b n : Int} (hl : l = P ++ (X ++ (M ++ (Y ++ S)))) (hXY : X.length = Y.length) (hlen : l.length < 2147483648) (ha : a = (P.length : Int)) (hb : b = ((P.length + X.length + M.length : Nat) : Int)) (hn : n = (X.length : Int)) :
    gswapRange cf l a b n = some (P ++ (Y ++ (M ++ (X ++ S)))) := by
  subst hl ha hb hn
  simp only [List.length_append] at hlen
  unfold gswapRange
  have := gswapRange_loop (cf := cf) P M S P.length (P.length + X.length + M.length) X.length rfl rfl (by omega) X Y [] [] hXY rfl (by simp)
  simp only [List.nil_append, List.length_nil] at this
  rw [show ((0 : Nat) : Int) = 0 from rfl] at this
  rw [this]; rfl
theorem grotate_loop (n : Nat) : ∀ (P X Y S : List α) (m : Int), X.length + Y.length ≤ n → 0 < X.length → 0 < Y.length → P.length + X.length + Y.length + S.length < 2147483648 → m = ((P.length + X.length : Nat) : Int) →
    ∃ P' U V S', loopO (grotate_l25 cf m) (P ++ (X ++ (Y ++ S)), (X.length : Int), (Y.length : Int)) = some (P' ++ (U ++ (V ++ S')), (U.length : Int)) ∧ U.length = V.length ∧ 0 < U.length ∧ m = ((P'.length + U.length : Nat) : Int) ∧ P'.length + U.length + V.length + S'.length < 2147483648 ∧
      P' ++ (V ++ (U ++ S')) = P ++ (Y ++ (X ++ S)) := by
  induction n with
  | zero => intro P X Y S m hn hx hy; omega
  | succ n ih =>
    intro P X Y S m hn hx hy hlen hm
    by_cases hij : X.length = Y.length
    · refine ⟨P, X, Y, S, loopO_done (by
        unfold grotate_l25
        rw [show (((X.length : Nat) : Int) != ((Y.length : Nat) : Int)) = false by rw [hij]; simp]; rfl), hij, hx, hm, hlen, rfl⟩
    · have hne : (((X.length : Nat) : Int) != ((Y.length : Nat) : Int)) = true := by simp; omega
      by_cases hgt : X.length > Y.length
      · -- X = A ++ Z with |A| = |Y|
        obtain ⟨A, Z, rfl, hA⟩ : ∃ A Z, X = A ++ Z ∧ A.length = Y.length := ⟨X.take Y.length, X.drop Y.length, (List.take_append_drop _ _).symm, by rw [List.length_take]; omega⟩
        have hAZ : (A ++ Z).length = A.length + Z.length := List.length_append
        simp only [List.length_append] at hn hx hlen hm hgt hij hne
        have hs := gswapRange_eq (cf := cf) (l := P ++ ((A ++ Z) ++ (Y ++ S))) (P := P) (X := A) (M := Z) (Y := Y) (S := S) (a := IntKind.wrap .i64 (m - ((A ++ Z).length : Int))) (b := m) (n := (Y.length : Int)) (by simp) hA (by simp; omega)
          (by rw [hm, wrap64 (by omega) (by omega)]; omega) (by rw [hm]; omega) (by rw [hA])
        have hstep : loopO (grotate_l25 cf m) (P ++ ((A ++ Z) ++ (Y ++ S)), ((A ++ Z).length : Int), (Y.length : Int)) = loopO (grotate_l25 cf m) ((P ++ Y) ++ (Z ++ (A ++ S)), (Z.length : Int), (A.length : Int)) := by
          refine loopO_step ?_
          unfold grotate_l25
          simp only [List.length_append] at hs ⊢
          rw [hne]
          simp only [cond_true]
          rw [show decide (((A.length + Z.length : Nat) : Int) > ((Y.length : Nat) : Int)) = true from decide_eq_true (by omega)]
          simp only [cond_true, hs, Option.bind_some]
          rw [wrap64 (by omega) (by omega)]
          simp; omega
        obtain ⟨P', U, V, S', h1, h2, h3, h4, h5, h6⟩ := ih (P ++ Y) Z A S m (by omega) (by omega) (by omega) (by simp; omega) (by rw [hm]; simp; omega)
        exact ⟨P', U, V, S', hstep.trans h1, h2, h3, h4, h5, by rw [h6]; simp⟩
      · obtain ⟨Z, B, rfl, hB⟩ : ∃ Z B, Y = Z ++ B ∧ B.length = X.length := ⟨Y.take (Y.length - X.length), Y.drop (Y.length - X.length), (List.take_append_drop _ _).symm, by rw [List.length_drop]; omega⟩
        simp only [List.length_append] at hn hy hlen hgt hij hne
        have hs := gswapRange_eq (cf := cf) (l := P ++ (X ++ ((Z ++ B) ++ S))) (P := P) (X := X) (M := Z) (Y := B) (S := S) (a := IntKind.wrap .i64 (m - (X.length : Int))) (b := IntKind.wrap .i64 (IntKind.wrap .i64 (m + ((Z ++ B).length : Int)) - (X.length : Int))) (n := (X.length : Int)) (by simp) hB.symm (by simp; omega)
          (by rw [hm, wrap64 (by omega) (by omega)]; omega) (by rw [hm, wrap64 (x := _ + _) (by simp; omega) (by simp; omega), wrap64 (by simp; omega) (by simp; omega)]; simp; omega) rfl
        have hstep : loopO (grotate_l25 cf m) (P ++ (X ++ ((Z ++ B) ++ S)), (X.length : Int), ((Z ++ B).length : Int)) = loopO (grotate_l25 cf m) (P ++ (B ++ (Z ++ (X ++ S))), (B.length : Int), (Z.length : Int)) := by
          refine loopO_step ?_
          unfold grotate_l25
          simp only [List.length_append] at hs ⊢
          rw [hne]
          simp only [cond_true]
          rw [show decide (((X.length : Nat) : Int) > ((Z.length + B.length : Nat) : Int)) = false from decide_eq_false (by omega)]
          simp only [cond_false, hs, Option.bind_some]
          rw [wrap64 (by omega) (by omega)]
          simp only [hB]
          rw [show ((Z.length + X.length : Nat) : Int) - (X.length : Int) = (Z.length : Int) from by omega]
        obtain ⟨P', U, V, S', h1, h2, h3, h4, h5, h6⟩ := ih P B Z (X ++ S) m (by omega) (by omega) (by omega) (by simp; omega) (by rw [hm]; omega)
        exact ⟨P', U, V, S', hstep.trans h1, h2, h3, h4, h5, by rw [h6]; simp⟩
theorem grotate_eq {l P X Y S : List α} {a m b : Int} (hl : l = P ++ (X ++ (Y ++ S))) (hx : 0 < X.length) (hy : 0 < Y.length) (hlen : l.length < 2147483648) (ha : a = (P.length : Int)) (hm : m = ((P.length + X.length : Nat) : Int)) (hb : b = ((P.length + X.length + Y.length : Nat) : Int)) :
    grotate cf l a m b = some (P ++ (Y ++ (X ++ S))) := by
  subst hl
  simp only [List.length_append] at hlen
  obtain ⟨P', U, V, S', h1, h2, h3, h4, h5, h6⟩ := grotate_loop (cf := cf) (X.length + Y.length) P X Y S m (Nat.le_refl _) hx hy (by omega) hm
  unfold grotate
  rw [show IntKind.wrap .i64 (m - a) = (X.length : Int) by rw [hm, ha, wrap64 (by omega) (by omega)]; omega, show IntKind.wrap .i64 (b - m) = (Y.length : Int) by rw [hm, hb, wrap64 (by omega) (by omega)]; omega, h1]
  simp only [Option.bind_some]
  rw [gswapRange_eq (cf := cf) (P := P') (X := U) (M := []) (Y := V) (S := S') (by simp) h2 (by simp; omega) (by rw [h4, wrap64 (by omega) (by omega)]; omega) (by rw [h4]; simp) rfl]
  simp only [List.nil_append, Option.bind_some]
  rw [h6]
/-- A search by halves. -/
theorem mid_eq {i j : Nat} (h : i + j < 4294967296) : IntKind.wrap .i64 (shr .u64 (IntKind.wrap .u64 (IntKind.wrap .i64 ((i : Int) + (j : Int)))) 1) = (((i + j) / 2 : Nat) : Int) := by
  rw [wrap64 (x := (i : Int) + (j : Int)) (by omega) (by omega), wrapU64 (by omega) (by omega)]
  have := shr_nat .u64 (i + j) 1 (by decide)
  rw [show ((i + j : Nat) : Int) = (i : Int) + (j : Int) from by omega, show ((1 : Nat) : Int) = 1 from rfl] at this
  rw [this, wrap64 (by omega) (by omega)]
theorem bs_spec {body : Int × Int → Option ((Int × Int) ⊕ Int)} (lo hi : Nat) (q : Nat → Bool)
    (h : ∀ i j : Nat, lo ≤ i → i < j → j ≤ hi → body ((i : Int), (j : Int)) = some (.inl (bif q ((i + j) / 2) then ((((i + j) / 2 + 1 : Nat) : Int), (j : Int)) else ((i : Int), (((i + j) / 2 : Nat) : Int)))))
    (he : ∀ i : Nat, body ((i : Int), (i : Int)) = some (.inr (i : Int))) :
    ∀ (n i j : Nat), j - i ≤ n → lo ≤ i → i ≤ j → j ≤ hi → (lo < i → q (i - 1) = true) → (j < hi → q j = false) →
      ∃ st : Nat, loopO body ((i : Int), (j : Int)) = some (st : Int) ∧ lo ≤ st ∧ st ≤ hi ∧ (lo < st → q (st - 1) = true) ∧ (st < hi → q st = false) := by
  intro n
  induction n with
  | zero =>
    intro i j hn h1 h2 h3 h4 h5
    obtain rfl : i = j := by omega
    exact ⟨i, loopO_done (he i), h1, h3, h4, h5⟩
  | succ n ih =>
    intro i j hn h1 h2 h3 h4 h5
    by_cases hij : i = j
    · subst hij; exact ⟨i, loopO_done (he i), h1, h3, h4, h5⟩
    · have hstep := h i j h1 (by omega) h3
      cases hq : q ((i + j) / 2) with
      | true =>
        rw [hq] at hstep
        obtain ⟨st, e, r⟩ := ih ((i + j) / 2 + 1) j (by omega) (by omega) (by omega) h3 (fun _ => by rw [Nat.add_sub_cancel]; exact hq) h5
        exact ⟨st, (loopO_step hstep).trans e, r⟩
      | false =>
        rw [hq] at hstep
        obtain ⟨st, e, r⟩ := ih i ((i + j) / 2) (by omega) h1 (by omega) (by omega) h4 (fun _ => hq)
        exact ⟨st, (loopO_step hstep).trans e, r⟩
end
end Go.GB

/- Stable sorting: the library's insertion sort and merge. -/
set_option linter.unusedVariables false
namespace Go.GB
section
variable {α : Type} {lt : α → α → Bool}
theorem Sorted.last {A : List α} {z : α} (h : Sorted lt (A ++ [z])) : ∀ a ∈ A, lt z a = false := fun a ha => (List.pairwise_append.1 h).2.2 a ha z (by simp)
theorem Sorted.head {B : List α} {y : α} (h : Sorted lt (y :: B)) : ∀ b ∈ B, lt b y = false := (List.pairwise_cons.1 h).1
theorem Sorted.left {A B : List α} (h : Sorted lt (A ++ B)) : Sorted lt A := (List.pairwise_append.1 h).1
theorem Sorted.right {A B : List α} (h : Sorted lt (A ++ B)) : Sorted lt B := (List.pairwise_append.1 h).2.1
theorem Sorted.cross {A B : List α} (h : Sorted lt (A ++ B)) : ∀ a ∈ A, ∀ b ∈ B, lt b a = false := (List.pairwise_append.1 h).2.2
theorem Sorted.append {A B : List α} (h : Sorted lt A) (h' : Sorted lt B) (hc : ∀ a ∈ A, ∀ b ∈ B, lt b a = false) : Sorted lt (A ++ B) := List.pairwise_append.2 ⟨h, h', hc⟩
theorem StS.self {A : List α} (h : Sorted lt A) : StS lt A A := ⟨FE.refl A, h⟩
/-- One more element, put in its place. -/
theorem ins_sts (hs : Swo lt) {X0 U V : List α} {y : α} (h : StS lt X0 (U ++ V)) (h2 : ∀ v ∈ V, lt y v = true) (h3 : U = [] ∨ ∃ U' z, U = U' ++ [z] ∧ lt y z = false) : StS lt (X0 ++ [y]) (U ++ (y :: V)) := by
  refine ⟨?_, ?_⟩
  · have e1 : FE lt (U ++ ([y] ++ V) ++ []) (U ++ (V ++ [y]) ++ []) := FE.mid (FE.swap hs (fun x hx z hz => by rw [List.mem_singleton.1 hz]; exact h2 x hx)).symm
    have e2 : FE lt ((U ++ V) ++ [y]) (X0 ++ [y]) := h.1.append (FE.refl _)
    have := e1.trans (by simpa using e2)
    simpa using this
  · have hUV := h.2
    refine Sorted.append hUV.left (List.pairwise_cons.2 ⟨fun v hv => hs.asymm y v (h2 v hv), hUV.right⟩) fun u hu w hw => ?_
    rcases List.mem_cons.1 hw with rfl | hw
    · rcases h3 with rfl | ⟨U', z, rfl, hz⟩
      · cases hu
      · rcases List.mem_append.1 hu with hu | hu
        · exact hs.trans u z w (hUV.left.last u hu) hz
        · rw [List.mem_singleton.1 hu]; exact hz
    · exact hUV.cross u hu w hw
/-- Two sorted lists, each cut in two, and what comes of the parts. -/
theorem merge4 (hs : Swo lt) {X1 X2 Y1 Y2 Z1 Z2 : List α} (hX : Sorted lt (X1 ++ X2)) (hY : Sorted lt (Y1 ++ Y2)) (c1 : ∀ x ∈ X1, ∀ y ∈ Y2, lt y x = false) (c2 : ∀ x ∈ X2, ∀ y ∈ Y1, lt y x = true)
    (h1 : StS lt (X1 ++ Y1) Z1) (h2 : StS lt (X2 ++ Y2) Z2) : StS lt ((X1 ++ X2) ++ (Y1 ++ Y2)) (Z1 ++ Z2) := by
  refine ⟨?_, h1.2.append h2.2 fun a ha b hb => ?_⟩
  · refine (h1.1.append h2.1).trans ?_
    have e : FE lt (X1 ++ (Y1 ++ X2) ++ Y2) (X1 ++ (X2 ++ Y1) ++ Y2) := FE.mid (FE.swap hs c2).symm
    simpa using e
  · have ha' := h1.1.mem hs ha
    have hb' := h2.1.mem hs hb
    rcases List.mem_append.1 ha' with ha' | ha' <;> rcases List.mem_append.1 hb' with hb' | hb'
    · exact hX.cross a ha' b hb'
    · exact c1 a ha' b hb'
    · exact hs.asymm a b (c2 b hb' a ha')
    · exact hY.cross a ha' b hb'
end
section
variable {α : Type} {cf : α → α → Int}
def ltc (cf : α → α → Int) (x y : α) : Bool := decide (cf x y < 0)
/-- One element goes down to its place. -/
theorem gins_inner (hs : Swo (ltc cf)) (P R : List α) (y : α) (a : Int) (ha : a = (P.length : Int)) (n : Nat) : ∀ (X : List α) (W : List α), X.length = n → P.length + X.length < 2147483648 →
    ∃ U V, X = U ++ V ∧ loopO (ginsertionSort_l52 cf a) (P ++ (X ++ (y :: (W ++ R))), ((P.length + X.length : Nat) : Int)) = some (P ++ (U ++ (y :: (V ++ (W ++ R))))) ∧ (∀ v ∈ V, ltc cf y v = true) ∧ (U = [] ∨ ∃ U' z, U = U' ++ [z] ∧ ltc cf y z = false) := by
  induction n with
  | zero =>
    intro X W hn hl
    have : X = [] := List.length_eq_zero_iff.1 hn
    subst this
    refine ⟨[], [], rfl, loopO_done ?_, (fun v hv => by cases hv), .inl rfl⟩
    unfold ginsertionSort_l52
    rw [show decide (((P.length + ([] : List α).length : Nat) : Int) > a) = false from decide_eq_false (by simp; omega)]
    simp
  | succ n ih =>
    intro X W hn hl
    obtain ⟨X', z, rfl⟩ : ∃ X' z, X = X' ++ [z] := ⟨X.dropLast, X.getLast (by intro e; rw [e] at hn; cases hn), (List.dropLast_concat_getLast _).symm⟩
    simp only [List.length_append, List.length_cons, List.length_nil] at hn hl
    have hl0 : P ++ ((X' ++ [z]) ++ (y :: (W ++ R))) = (P ++ X') ++ z :: ([] ++ y :: (W ++ R)) := by simp
    have ej : ((P.length + (X' ++ [z]).length : Nat) : Int) = (((P ++ X').length + 1 + ([] : List α).length : Nat) : Int) := by simp; omega
    have ei : IntKind.wrap .i64 (((P.length + (X' ++ [z]).length : Nat) : Int) - 1) = ((P ++ X').length : Int) := by
      simp only [List.length_append, List.length_cons, List.length_nil]; rw [wrap64 (by omega) (by omega)]; omega
    obtain ⟨e1, e2, e3, e4⟩ := ex_down hl0 ei ej
    rw [ei] at e1 e3 e4
    have hgt : decide (((P.length + (X' ++ [z]).length : Nat) : Int) > a) = true := decide_eq_true (by simp; omega)
    cases hlt : ltc cf y z with
    | false =>
      refine ⟨X' ++ [z], [], by simp, loopO_done ?_, fun v hv => (by cases hv), .inr ⟨X', z, rfl, hlt⟩⟩
      unfold ginsertionSort_l52
      unfold ltc at hlt
      simp only [hgt, cond_true, ei, e1, e2, Option.bind_some, hlt, cond_false, List.nil_append]
    | true =>
      obtain ⟨U, V, rfl, h1, h2, h3⟩ := ih X' (z :: W) (by omega) (by omega)
      refine ⟨U, V ++ [z], by simp, ?_, fun v hv => ?_, h3⟩
      · rw [loopO_step (s' := (P ++ ((U ++ V) ++ (y :: ((z :: W) ++ R))), ((P.length + (U ++ V).length : Nat) : Int))) (by
          unfold ginsertionSort_l52
          unfold ltc at hlt
          simp only [hgt, cond_true, ei, e1, e2, Option.bind_some, hlt, e3, e4]
          simp), h1]
        simp
      · rcases List.mem_append.1 hv with hv | hv
        · exact h2 v hv
        · rw [List.mem_singleton.1 hv]; exact hlt
theorem gins_outer (hs : Swo (ltc cf)) (P S : List α) (a b : Int) (ha : a = (P.length : Int)) : ∀ (Y X0 X1 : List α), StS (ltc cf) X0 X1 → b = ((P.length + X1.length + Y.length : Nat) : Int) → P.length + X1.length + Y.length < 2147483648 →
    ∃ Z, loopO (ginsertionSort_l25 cf a b) (P ++ (X1 ++ (Y ++ S)), ((P.length + X1.length : Nat) : Int)) = some (P ++ (Z ++ S)) ∧ StS (ltc cf) (X0 ++ Y) Z := by
  intro Y
  induction Y with
  | nil =>
    intro X0 X1 h hb hl
    refine ⟨X1, loopO_done ?_, by simpa using h⟩
    unfold ginsertionSort_l25
    rw [show decide (((P.length + X1.length : Nat) : Int) < b) = false from decide_eq_false (by rw [hb]; simp)]
    simp
  | cons y Y ih =>
    intro X0 X1 h hb hl
    simp only [List.length_cons] at hb hl
    obtain ⟨U, V, rfl, h1, h2, h3⟩ := gins_inner hs P (Y ++ S) y a ha X1.length X1 [] rfl (by omega)
    simp only [List.nil_append] at h1
    have hst : StS (ltc cf) (X0 ++ [y]) (U ++ (y :: V)) := ins_sts hs h h2 h3
    obtain ⟨Z, hz, hZ⟩ := ih (X0 ++ [y]) (U ++ (y :: V)) hst (by rw [hb]; simp; omega) (by simp at hl ⊢; omega)
    refine ⟨Z, ?_, by simpa using hZ⟩
    rw [loopO_step (s' := (P ++ ((U ++ (y :: V)) ++ (Y ++ S)), ((P.length + (U ++ (y :: V)).length : Nat) : Int))) (by
      unfold ginsertionSort_l25
      rw [show decide (((P.length + (U ++ V).length : Nat) : Int) < b) = true from decide_eq_true (by rw [hb]; omega)]
      simp only [cond_true]
      rw [show P ++ ((U ++ V) ++ (y :: Y ++ S)) = P ++ ((U ++ V) ++ (y :: (Y ++ S))) from by simp, h1]
      simp only [Option.bind_some]
      rw [wrap_up (by omega)]
      simp; omega)]
    exact hz
theorem gins_eq (hs : Swo (ltc cf)) {l P X S : List α} {a b : Int} (hl : l = P ++ (X ++ S)) (hlen : l.length < 2147483648) (ha : a = (P.length : Int)) (hb : b = ((P.length + X.length : Nat) : Int)) : ∃ Z, ginsertionSort cf l a b = some (P ++ (Z ++ S)) ∧ StS (ltc cf) X Z := by
  subst hl
  simp only [List.length_append] at hlen
  unfold ginsertionSort
  cases X with
  | nil =>
    refine ⟨[], ?_, StS.self List.Pairwise.nil⟩
    rw [loopO_done (r := P ++ ([] ++ S)) (by
      unfold ginsertionSort_l25
      rw [ha, wrap_up (by omega), show decide (((P.length + 1 : Nat) : Int) < b) = false from decide_eq_false (by rw [hb]; simp; omega)]; rfl)]
    rfl
  | cons x X =>
    simp only [List.length_cons] at hlen hb
    obtain ⟨Z, h1, h2⟩ := gins_outer (cf := cf) hs P S a b ha X [x] [x] (StS.self (List.pairwise_singleton _ _)) (by rw [hb]; simp; omega) (by simp; omega)
    refine ⟨Z, ?_, h2⟩
    rw [ha, wrap_up (by omega)]
    simp only [List.length_cons, List.length_nil, Nat.zero_add] at h1
    rw [← ha, show P ++ (x :: X ++ S) = P ++ ([x] ++ (X ++ S)) from rfl, h1]
    rfl
/-- One element goes to the right, to the left. -/
theorem gsym_right (P R : List α) (x : α) (r : Int) : ∀ (Y2 Y1 : List α), r = ((P.length + Y1.length + Y2.length + 1 : Nat) : Int) → P.length + Y1.length + Y2.length < 2147483648 →
    loopO (gsymMerge_l68 cf r) (P ++ (Y1 ++ (x :: (Y2 ++ R))), ((P.length + Y1.length : Nat) : Int)) = some (P ++ (Y1 ++ (Y2 ++ (x :: R)))) := by
  intro Y2
  induction Y2 with
  | nil =>
    intro Y1 hr hl
    refine loopO_done ?_
    unfold gsymMerge_l68
    rw [show decide (((P.length + Y1.length : Nat) : Int) < IntKind.wrap .i64 (r - 1)) = false from decide_eq_false (by rw [hr, wrap64 (by omega) (by omega)]; simp)]
    rfl
  | cons y Y2 ih =>
    intro Y1 hr hl
    simp only [List.length_cons] at hr hl
    have hl0 : P ++ (Y1 ++ (x :: (y :: Y2 ++ R))) = (P ++ Y1) ++ x :: ([] ++ y :: (Y2 ++ R)) := by simp
    have ei : ((P.length + Y1.length : Nat) : Int) = ((P ++ Y1).length : Int) := by simp
    have ej : IntKind.wrap .i64 (((P.length + Y1.length : Nat) : Int) + 1) = (((P ++ Y1).length + 1 + ([] : List α).length : Nat) : Int) := by rw [wrap_up (by omega)]; simp
    obtain ⟨e1, e2, e3, e4⟩ := ex_up hl0 ei ej
    rw [ej] at e2 e3 e4
    rw [loopO_step (s' := (P ++ ((Y1 ++ [y]) ++ (x :: (Y2 ++ R))), ((P.length + (Y1 ++ [y]).length : Nat) : Int))) (by
      unfold gsymMerge_l68
      rw [show decide (((P.length + Y1.length : Nat) : Int) < IntKind.wrap .i64 (r - 1)) = true from decide_eq_true (by rw [hr, wrap64 (by omega) (by omega)]; omega)]
      simp only [cond_true, ej, e1, e2, Option.bind_some, e3, e4]
      simp; omega), ih (Y1 ++ [y]) (by rw [hr]; simp; omega) (by simp; omega)]
    simp
theorem gsym_left (P R : List α) (y : α) (r : Int) (hr : r = (P.length : Int)) (n : Nat) : ∀ (X W : List α), X.length = n → P.length + X.length < 2147483648 →
    loopO (gsymMerge_l180 cf r) (P ++ (X ++ (y :: (W ++ R))), ((P.length + X.length : Nat) : Int)) = some (P ++ (y :: (X ++ (W ++ R)))) := by
  induction n with
  | zero =>
    intro X W hn hl
    have : X = [] := List.length_eq_zero_iff.1 hn
    subst this
    refine loopO_done ?_
    unfold gsymMerge_l180
    rw [show decide (((P.length + ([] : List α).length : Nat) : Int) > r) = false from decide_eq_false (by simp; omega)]
    rfl
  | succ n ih =>
    intro X W hn hl
    obtain ⟨X', z, rfl⟩ : ∃ X' z, X = X' ++ [z] := ⟨X.dropLast, X.getLast (by intro e; rw [e] at hn; cases hn), (List.dropLast_concat_getLast _).symm⟩
    simp only [List.length_append, List.length_cons, List.length_nil] at hn hl
    have hl0 : P ++ ((X' ++ [z]) ++ (y :: (W ++ R))) = (P ++ X') ++ z :: ([] ++ y :: (W ++ R)) := by simp
    have ej : ((P.length + (X' ++ [z]).length : Nat) : Int) = (((P ++ X').length + 1 + ([] : List α).length : Nat) : Int) := by simp; omega
    have ei : IntKind.wrap .i64 (((P.length + (X' ++ [z]).length : Nat) : Int) - 1) = ((P ++ X').length : Int) := by
      simp only [List.length_append, List.length_cons, List.length_nil]; rw [wrap64 (by omega) (by omega)]; omega
    obtain ⟨e1, e2, e3, e4⟩ := ex_down hl0 ei ej
    rw [ei] at e1 e3 e4
    rw [loopO_step (s' := (P ++ (X' ++ (y :: ((z :: W) ++ R))), ((P.length + X'.length : Nat) : Int))) (by
      unfold gsymMerge_l180
      rw [show decide (((P.length + (X' ++ [z]).length : Nat) : Int) > r) = true from decide_eq_true (by simp; omega)]
      simp only [cond_true, ei, e1, e2, Option.bind_some, e3, e4]
      simp), ih X' (z :: W) (by omega) (by omega)]
    simp
end
end Go.GB

/- Stable sorting: the library's merge in place. -/
set_option linter.unusedVariables false
namespace Go.GB
section
variable {α : Type} {cf : α → α → Int}
theorem split_at {Y : List α} {k : Nat} (h : k ≤ Y.length) : ∃ Y1 Y2, Y = Y1 ++ Y2 ∧ Y1.length = k := ⟨Y.take k, Y.drop k, (List.take_append_drop _ _).symm, by rw [List.length_take]; omega⟩
theorem snoc_of {Y : List α} (h : 0 < Y.length) : ∃ Y' z, Y = Y' ++ [z] := ⟨Y.dropLast, Y.getLast (by intro e; rw [e] at h; cases h), (List.dropLast_concat_getLast _).symm⟩
theorem cons_of {Y : List α} (h : 0 < Y.length) : ∃ z Y', Y = z :: Y' := by
  cases Y with
  | nil => cases h
  | cons z Y' => exact ⟨z, Y', rfl⟩
noncomputable abbrev symF (cf : α → α → Int) : ((List α × Int × Int × Int) → Option (List α)) → (List α × Int × Int × Int) → Option (List α) :=
  fun rec_ x => gsymMerge_b cf (fun a0 a1 a2 a3 => rec_ (a0, a1, a2, a3)) x.1 x.2.1 x.2.2.1 x.2.2.2
/-- One element ahead of a sorted list. -/
theorem gsym_one (hs : Swo (ltc cf)) (rec_ : List α → Int → Int → Int → Option (List α)) {P Y S : List α} {x : α} (hY : 0 < Y.length) (hSY : Sorted (ltc cf) Y) (hlen : P.length + 1 + Y.length + S.length < 2147483648) :
    ∃ Z, gsymMerge_b cf rec_ (P ++ ([x] ++ (Y ++ S))) ((P.length : Nat) : Int) ((P.length + 1 : Nat) : Int) ((P.length + 1 + Y.length : Nat) : Int) = some (P ++ (Z ++ S)) ∧ StS (ltc cf) ([x] ++ Y) Z := by
  have hx : ix (P ++ ([x] ++ (Y ++ S))) ((P.length : Nat) : Int) = some x := ix_at (A := P) (B := Y ++ S) (by simp) rfl
  obtain ⟨st, h1, h2, h3, h4, h5⟩ := bs_spec (body := gsymMerge_l17 cf (P ++ ([x] ++ (Y ++ S))) ((P.length : Nat) : Int)) (P.length + 1) (P.length + 1 + Y.length) (fun h => match Y[h - (P.length + 1)]? with | some y => ltc cf y x | none => false)
    (fun i j hi hij hj => by
      have hk : (i + j) / 2 - (P.length + 1) < Y.length := by omega
      have hy : ix (P ++ ([x] ++ (Y ++ S))) (((i + j) / 2 : Nat) : Int) = some (Y[(i + j) / 2 - (P.length + 1)]) := by
        rw [ix_nat, List.getElem?_append_right (by omega), List.getElem?_append_right (by simp; omega), List.getElem?_append_left (by simp; omega), ← List.getElem?_eq_getElem]
        congr 1
      unfold gsymMerge_l17
      simp only [mid_eq (show i + j < 4294967296 by omega)]
      rw [show decide ((i : Int) < (j : Int)) = true from decide_eq_true (by omega)]
      simp only [cond_true, hy, hx, Option.bind_some, List.getElem?_eq_getElem hk]
      rw [wrap_up (by omega)]
      unfold ltc
      cases decide (cf Y[(i + j) / 2 - (P.length + 1)] x < 0) <;> rfl)
    (fun i => by unfold gsymMerge_l17; rw [show decide ((i : Int) < (i : Int)) = false from decide_eq_false (by omega)]; rfl)
    (Y.length) (P.length + 1) (P.length + 1 + Y.length) (by omega) (Nat.le_refl _) (by omega) (Nat.le_refl _) (fun h => by omega) (fun h => by omega)
  obtain ⟨Y1, Y2, rfl, hY1⟩ := split_at (Y := Y) (k := st - (P.length + 1)) (by omega)
  have hmv := gsym_right (cf := cf) P (Y2 ++ S) x ((st : Nat) : Int) Y1 [] (by simp; omega) (by simp at hlen ⊢; omega)
  simp only [List.nil_append, List.length_nil, Nat.add_zero] at hmv
  refine ⟨Y1 ++ ([x] ++ Y2), ?_, ?_⟩
  · unfold gsymMerge_b
    rw [show ((IntKind.wrap .i64 (((P.length + 1 : Nat) : Int) - ((P.length : Nat) : Int))) == 1) = true by rw [wrap64 (by omega) (by omega)]; simp; omega]
    simp only [cond_true]
    rw [h1]
    simp only [Option.bind_some]
    rw [show P ++ ([x] ++ ((Y1 ++ Y2) ++ S)) = P ++ (x :: (Y1 ++ (Y2 ++ S))) from by simp, hmv]
    simp
  · have c2 : ∀ y ∈ Y1, ltc cf y x = true := by
      by_cases h0 : Y1.length = 0
      · rw [List.length_eq_zero_iff.1 h0]; intro y hy; cases hy
      · obtain ⟨Y', z, rfl⟩ := snoc_of (Y := Y1) (by omega)
        have hz := h4 (by omega)
        simp only [List.length_append, List.length_cons, List.length_nil] at hY1
        rw [show st - 1 - (P.length + 1) = Y'.length from by omega] at hz
        rw [show ((Y' ++ [z]) ++ Y2)[Y'.length]? = some z from by simp] at hz
        intro y hy
        rcases List.mem_append.1 hy with hy | hy
        · exact hs.le_lt (hSY.left.last y hy) hz
        · rw [List.mem_singleton.1 hy]; exact hz
    have c3 : ∀ y ∈ Y2, ltc cf y x = false := by
      by_cases h0 : Y2.length = 0
      · rw [List.length_eq_zero_iff.1 h0]; intro y hy; cases hy
      · obtain ⟨z, Y', rfl⟩ := cons_of (Y := Y2) (by omega)
        have hz := h5 (by simp; omega)
        rw [show st - (P.length + 1) = Y1.length from by omega] at hz
        rw [show (Y1 ++ z :: Y')[Y1.length]? = some z from by simp] at hz
        intro y hy
        rcases List.mem_cons.1 hy with rfl | hy
        · exact hz
        · exact hs.trans x z y hz (hSY.right.head y hy)
    have := merge4 hs (X1 := []) (X2 := [x]) (Y1 := Y1) (Y2 := Y2) (Z1 := Y1) (Z2 := [x] ++ Y2) (List.pairwise_singleton _ _) hSY (fun x hx => by cases hx) (fun u hu y hy => by rw [List.mem_singleton.1 hu]; exact c2 y hy)
      (StS.self hSY.left) (StS.self (List.pairwise_cons.2 ⟨c3, hSY.right⟩))
    simpa using this
/-- One element behind a sorted list. -/
theorem gsym_end (hs : Swo (ltc cf)) (rec_ : List α → Int → Int → Int → Option (List α)) {P X S : List α} {y : α} (hX : 1 < X.length) (hSX : Sorted (ltc cf) X) (hlen : P.length + X.length + 1 + S.length < 2147483648) :
    ∃ Z, gsymMerge_b cf rec_ (P ++ (X ++ ([y] ++ S))) ((P.length : Nat) : Int) ((P.length + X.length : Nat) : Int) ((P.length + X.length + 1 : Nat) : Int) = some (P ++ (Z ++ S)) ∧ StS (ltc cf) (X ++ [y]) Z := by
  have hy : ix (P ++ (X ++ ([y] ++ S))) ((P.length + X.length : Nat) : Int) = some y := ix_at (A := P ++ X) (B := S) (by simp) (by simp)
  obtain ⟨st, h1, h2, h3, h4, h5⟩ := bs_spec (body := gsymMerge_l129 cf (P ++ (X ++ ([y] ++ S))) ((P.length + X.length : Nat) : Int)) P.length (P.length + X.length) (fun h => match X[h - P.length]? with | some x => !(ltc cf y x) | none => false)
    (fun i j hi hij hj => by
      have hk : (i + j) / 2 - P.length < X.length := by omega
      have hx : ix (P ++ (X ++ ([y] ++ S))) (((i + j) / 2 : Nat) : Int) = some (X[(i + j) / 2 - P.length]) := by
        rw [ix_nat, List.getElem?_append_right (by omega), List.getElem?_append_left (by omega), ← List.getElem?_eq_getElem]
      unfold gsymMerge_l129
      simp only [mid_eq (show i + j < 4294967296 by omega)]
      rw [show decide ((i : Int) < (j : Int)) = true from decide_eq_true (by omega)]
      simp only [cond_true, hy, hx, Option.bind_some, List.getElem?_eq_getElem hk]
      rw [wrap_up (by omega)]
      unfold ltc
      cases decide (cf y X[(i + j) / 2 - P.length] < 0) <;> rfl)
    (fun i => by unfold gsymMerge_l129; rw [show decide ((i : Int) < (i : Int)) = false from decide_eq_false (by omega)]; rfl)
    (X.length) P.length (P.length + X.length) (by omega) (Nat.le_refl _) (by omega) (Nat.le_refl _) (fun h => by omega) (fun h => by omega)
  obtain ⟨X1, X2, rfl, hX1⟩ := split_at (Y := X) (k := st - P.length) (by omega)
  have hlx : (X1 ++ X2).length = X1.length + X2.length := List.length_append
  have hmv := gsym_left (cf := cf) (P ++ X1) S y ((st : Nat) : Int) (by simp; omega) X2.length X2 [] rfl (by simp at hlen ⊢; omega)
  simp only [List.nil_append] at hmv
  refine ⟨X1 ++ ([y] ++ X2), ?_, ?_⟩
  · unfold gsymMerge_b
    rw [show ((IntKind.wrap .i64 (((P.length + (X1 ++ X2).length : Nat) : Int) - ((P.length : Nat) : Int))) == 1) = false by rw [wrap64 (by omega) (by omega)]; simp; omega]
    simp only [cond_false]
    rw [show ((IntKind.wrap .i64 (((P.length + (X1 ++ X2).length + 1 : Nat) : Int) - ((P.length + (X1 ++ X2).length : Nat) : Int))) == 1) = true by rw [wrap64 (by omega) (by omega)]; simp; omega]
    simp only [cond_true]
    rw [h1]
    simp only [Option.bind_some]
    rw [show P ++ ((X1 ++ X2) ++ ([y] ++ S)) = (P ++ X1) ++ (X2 ++ (y :: S)) from by simp, show ((P.length + (X1 ++ X2).length : Nat) : Int) = (((P ++ X1).length + X2.length : Nat) : Int) from by simp; omega, hmv]
    simp
  · have c2 : ∀ x ∈ X2, ltc cf y x = true := by
      by_cases h0 : X2.length = 0
      · rw [List.length_eq_zero_iff.1 h0]; intro x hx; cases hx
      · obtain ⟨z, X', rfl⟩ := cons_of (Y := X2) (by omega)
        have hz := h5 (by simp at hlx ⊢; omega)
        rw [show st - P.length = X1.length from by omega] at hz
        rw [show (X1 ++ z :: X')[X1.length]? = some z from by simp] at hz
        simp only [Bool.not_eq_false'] at hz
        intro x hx
        rcases List.mem_cons.1 hx with rfl | hx
        · exact hz
        · exact hs.lt_le hz (hSX.right.head x hx)
    have c1 : ∀ x ∈ X1, ltc cf y x = false := by
      by_cases h0 : X1.length = 0
      · rw [List.length_eq_zero_iff.1 h0]; intro x hx; cases hx
      · obtain ⟨X', z, rfl⟩ := snoc_of (Y := X1) (by omega)
        have hz := h4 (by omega)
        simp only [List.length_append, List.length_cons, List.length_nil] at hX1
        rw [show st - 1 - P.length = X'.length from by omega] at hz
        rw [show ((X' ++ [z]) ++ X2)[X'.length]? = some z from by simp] at hz
        simp only [Bool.not_eq_true'] at hz
        intro x hx
        rcases List.mem_append.1 hx with hx | hx
        · exact hs.trans x z y (hSX.left.last x hx) hz
        · rw [List.mem_singleton.1 hx]; exact hz
    have := merge4 hs (X1 := X1) (X2 := X2) (Y1 := [y]) (Y2 := []) (Z1 := X1 ++ [y]) (Z2 := X2) hSX (List.pairwise_singleton _ _) (fun x hx z hz => by cases hz) (fun u hu z hz => by rw [List.mem_singleton.1 hz]; exact c2 u hu)
      (StS.self (hSX.left.append (List.pairwise_singleton _ _) (fun x hx z hz => by rw [List.mem_singleton.1 hz]; exact c1 x hx))) (by simpa using StS.self hSX.right)
    simpa using this
set_option maxHeartbeats 2000000 in
/-- Two sorted ranges, one behind the other. -/
theorem gsym_eq (hs : Swo (ltc cf)) (n : Nat) : ∀ (P X Y S : List α), X.length + Y.length ≤ n → 0 < X.length → 0 < Y.length → Sorted (ltc cf) X → Sorted (ltc cf) Y → P.length + X.length + Y.length + S.length < 2147483648 →
    ∃ Z, iterF (symF cf) n (P ++ (X ++ (Y ++ S)), ((P.length : Nat) : Int), ((P.length + X.length : Nat) : Int), ((P.length + X.length + Y.length : Nat) : Int)) = some (P ++ (Z ++ S)) ∧ StS (ltc cf) (X ++ Y) Z := by
  induction n with
  | zero => intro P X Y S hn hX; omega
  | succ n ih =>
    intro P X Y S hn hX hY hSX hSY hlen
    rw [iterF_succ]
    show ∃ Z, gsymMerge_b cf (fun a0 a1 a2 a3 => iterF (symF cf) n (a0, a1, a2, a3)) (P ++ (X ++ (Y ++ S))) ((P.length : Nat) : Int) ((P.length + X.length : Nat) : Int) ((P.length + X.length + Y.length : Nat) : Int) = some (P ++ (Z ++ S)) ∧ _
    by_cases hX1 : X.length = 1
    · obtain ⟨x, X', rfl⟩ := cons_of hX
      have : X' = [] := List.length_eq_zero_iff.1 (by simpa using hX1)
      subst this
      exact gsym_one hs _ hY hSY (by simp at hlen ⊢; omega)
    by_cases hY1 : Y.length = 1
    · obtain ⟨y, Y', rfl⟩ := cons_of hY
      have : Y' = [] := List.length_eq_zero_iff.1 (by simpa using hY1)
      subst this
      exact gsym_end hs _ (by omega) hSX (by simp at hlen ⊢; omega)
    -- the general case
    generalize ha : P.length = a at *
    generalize hm : a + X.length = m at *
    generalize hb : m + Y.length = b at *
    have hmid1 : IntKind.wrap .i64 (shr .u64 (IntKind.wrap .u64 (IntKind.wrap .i64 ((a : Int) + (b : Int)))) 1) = (((a + b) / 2 : Nat) : Int) := mid_eq (by omega)
    generalize hmid : (a + b) / 2 = mid at *
    -- where the search goes
    obtain ⟨lo, hi, hlohi, hlo1, hcases⟩ : ∃ lo hi : Nat, (bif (decide ((m : Int) > (mid : Int))) then some ((IntKind.wrap .i64 ((IntKind.wrap .i64 ((mid : Int) + (m : Int))) - (b : Int))), (mid : Int)) else some ((a : Int), (m : Int)) : Option (Int × Int)) = some ((lo : Int), (hi : Int)) ∧ lo ≤ hi ∧
        ((mid < m ∧ lo + b = mid + m ∧ hi = mid) ∨ (m ≤ mid ∧ lo = a ∧ hi = m)) := by
      by_cases hc : mid < m
      · refine ⟨mid + m - b, mid, ?_, by omega, .inl ⟨hc, by omega, rfl⟩⟩
        rw [show decide ((m : Int) > (mid : Int)) = true from decide_eq_true (by omega)]
        simp only [cond_true]
        rw [wrap64 (x := (mid : Int) + (m : Int)) (by omega) (by omega), wrap64 (by omega) (by omega)]
        congr 2; omega
      · refine ⟨a, m, ?_, by omega, .inr ⟨by omega, rfl, rfl⟩⟩
        rw [show decide ((m : Int) > (mid : Int)) = false from decide_eq_false (by omega)]; rfl
    have hxi : ∀ c : Nat, a ≤ c → (hc : c < m) → ix (P ++ (X ++ (Y ++ S))) (c : Int) = some (X[c - a]'(by omega)) := fun c h1 h2 => by
      rw [ix_nat, List.getElem?_append_right (by omega), ha, List.getElem?_append_left (by omega), ← List.getElem?_eq_getElem]
    have hyi : ∀ c : Nat, m ≤ c → (hc : c < b) → ix (P ++ (X ++ (Y ++ S))) (c : Int) = some (Y[c - m]'(by omega)) := fun c h1 h2 => by
      rw [ix_nat, List.getElem?_append_right (by omega), ha, List.getElem?_append_right (by omega), show c - a - X.length = c - m from by omega, List.getElem?_append_left (by omega), ← List.getElem?_eq_getElem]
    obtain ⟨st, h1, h2, h3, h4, h5⟩ := bs_spec (body := gsymMerge_l246 cf (P ++ (X ++ (Y ++ S))) (a : Int) (m : Int) (b : Int)) lo hi (fun c => match X[c - a]?, Y[mid + m - 1 - c - m]? with | some x, some y => !(ltc cf y x) | _, _ => false)
      (fun i j hi' hij hj => by
        have hk1 : (i + j) / 2 - a < X.length := by omega
        have hk2 : mid + m - 1 - (i + j) / 2 - m < Y.length := by omega
        have hx := hxi ((i + j) / 2) (by omega) (by omega)
        have hy := hyi (mid + m - 1 - (i + j) / 2) (by omega) (by omega)
        unfold gsymMerge_l246
        simp only [mid_eq (show i + j < 4294967296 by omega), hmid1]
        rw [show decide ((i : Int) < (j : Int)) = true from decide_eq_true (by omega)]
        rw [show IntKind.wrap .i64 (IntKind.wrap .i64 (IntKind.wrap .i64 ((mid : Int) + (m : Int)) - 1) - (((i + j) / 2 : Nat) : Int)) = ((mid + m - 1 - (i + j) / 2 : Nat) : Int) by
          rw [wrap64 (x := (mid : Int) + (m : Int)) (by omega) (by omega), wrap64 (x := _ - 1) (by omega) (by omega), wrap64 (by omega) (by omega)]; omega]
        simp only [cond_true, hy, hx, Option.bind_some, List.getElem?_eq_getElem hk1, List.getElem?_eq_getElem hk2]
        rw [wrap_up (by omega)]
        unfold ltc
        cases decide (cf Y[mid + m - 1 - (i + j) / 2 - m] X[(i + j) / 2 - a] < 0) <;> rfl)
      (fun i => by unfold gsymMerge_l246; rw [show decide ((i : Int) < (i : Int)) = false from decide_eq_false (by omega)]; rfl)
      (hi - lo) lo hi (Nat.le_refl _) (Nat.le_refl _) hlo1 (Nat.le_refl _) (fun h => by omega) (fun h => by omega)
    obtain ⟨X1, X2, rfl, hx1⟩ := split_at (Y := X) (k := st - a) (by omega)
    obtain ⟨Y1, Y2, rfl, hy1⟩ := split_at (Y := Y) (k := mid - st) (by omega)
    have hlx : (X1 ++ X2).length = X1.length + X2.length := List.length_append
    have hly : (Y1 ++ Y2).length = Y1.length + Y2.length := List.length_append
    -- what the search tells
    have c1 : ∀ x ∈ X1, ∀ y ∈ Y2, ltc cf y x = false := by
      intro x hx y hy
      have hX1p : 0 < X1.length := List.length_pos_of_mem hx
      have hY2p : 0 < Y2.length := List.length_pos_of_mem hy
      obtain ⟨X', z, rfl⟩ := snoc_of hX1p
      obtain ⟨w, Y', rfl⟩ := cons_of hY2p
      have e1 : (X' ++ [z]).length = X'.length + 1 := by simp
      have e2 : (w :: Y').length = Y'.length + 1 := by simp
      have hz := h4 (by omega)
      rw [show st - 1 - a = X'.length from by omega, show mid + m - 1 - (st - 1) - m = Y1.length from by omega] at hz
      rw [show ((X' ++ [z]) ++ X2)[X'.length]? = some z from by simp, show (Y1 ++ w :: Y')[Y1.length]? = some w from by simp] at hz
      simp only [Bool.not_eq_true'] at hz
      have hxz : ltc cf z x = false := by
        rcases List.mem_append.1 hx with hx | hx
        · exact hSX.left.last x hx
        · rw [List.mem_singleton.1 hx]; exact hs.irrefl _
      have hwy : ltc cf y w = false := by
        rcases List.mem_cons.1 hy with rfl | hy
        · exact hs.irrefl _
        · exact hSY.right.head y hy
      exact hs.trans x z y hxz (hs.trans z w y hz hwy)
    have c2 : ∀ x ∈ X2, ∀ y ∈ Y1, ltc cf y x = true := by
      intro x hx y hy
      have hX2p : 0 < X2.length := List.length_pos_of_mem hx
      have hY1p : 0 < Y1.length := List.length_pos_of_mem hy
      obtain ⟨z, X', rfl⟩ := cons_of hX2p
      obtain ⟨Y', w, rfl⟩ := snoc_of hY1p
      have e1 : (Y' ++ [w]).length = Y'.length + 1 := by simp
      have e2 : (z :: X').length = X'.length + 1 := by simp
      have hz := h5 (by omega)
      rw [show st - a = X1.length from by omega, show mid + m - 1 - st - m = Y'.length from by omega] at hz
      rw [show (X1 ++ z :: X')[X1.length]? = some z from by simp, show ((Y' ++ [w]) ++ Y2)[Y'.length]? = some w from by simp] at hz
      simp only [Bool.not_eq_false'] at hz
      have hyw : ltc cf w y = false := by
        rcases List.mem_append.1 hy with hy | hy
        · exact hSY.left.last y hy
        · rw [List.mem_singleton.1 hy]; exact hs.irrefl _
      have hzx : ltc cf x z = false := by
        rcases List.mem_cons.1 hx with rfl | hx
        · exact hs.irrefl _
        · exact hSX.right.head x hx
      exact hs.le_lt hyw (hs.lt_le hz hzx)
    -- the steps
    have hend : IntKind.wrap .i64 (IntKind.wrap .i64 ((mid : Int) + (m : Int)) - (st : Int)) = ((mid + m - st : Nat) : Int) := by
      rw [wrap64 (x := (mid : Int) + (m : Int)) (by omega) (by omega), wrap64 (by omega) (by omega)]; omega
    have hrot : (bif ((decide ((st : Int) < (m : Int))) && (decide ((m : Int) < ((mid + m - st : Nat) : Int)))) then (Option.bind (grotate cf (P ++ ((X1 ++ X2) ++ ((Y1 ++ Y2) ++ S))) (st : Int) (m : Int) ((mid + m - st : Nat) : Int)) fun (y288 : List α) => some y288) else some (P ++ ((X1 ++ X2) ++ ((Y1 ++ Y2) ++ S)))) = some (P ++ (X1 ++ (Y1 ++ (X2 ++ (Y2 ++ S))))) := by
      by_cases hc : 0 < X2.length ∧ 0 < Y1.length
      · rw [show (decide ((st : Int) < (m : Int)) && decide ((m : Int) < ((mid + m - st : Nat) : Int))) = true by rw [Bool.and_eq_true, decide_eq_true_iff, decide_eq_true_iff]; omega]
        rw [grotate_eq (cf := cf) (P := P ++ X1) (X := X2) (Y := Y1) (S := Y2 ++ S) (by simp) hc.1 hc.2 (by simp only [List.length_append]; omega) (by simp; omega) (by simp; omega) (by simp; omega)]
        simp
      · rw [show (decide ((st : Int) < (m : Int)) && decide ((m : Int) < ((mid + m - st : Nat) : Int))) = false by rw [Bool.and_eq_false_iff, decide_eq_false_iff_not, decide_eq_false_iff_not]; omega]
        rcases Nat.eq_zero_or_pos X2.length with h0 | h0
        · rw [List.length_eq_zero_iff.1 h0]; simp
        · rw [List.length_eq_zero_iff.1 (show Y1.length = 0 by omega)]; simp
    obtain ⟨Z1, hr1, hZ1⟩ : ∃ Z1, (bif ((decide ((a : Int) < (st : Int))) && (decide ((st : Int) < (mid : Int)))) then (Option.bind (iterF (symF cf) n (P ++ (X1 ++ (Y1 ++ (X2 ++ (Y2 ++ S)))), (a : Int), (st : Int), (mid : Int))) fun (y311 : List α) => some y311) else some (P ++ (X1 ++ (Y1 ++ (X2 ++ (Y2 ++ S)))))) = some (P ++ (Z1 ++ (X2 ++ (Y2 ++ S)))) ∧ StS (ltc cf) (X1 ++ Y1) Z1 := by
      by_cases hc : 0 < X1.length ∧ 0 < Y1.length
      · obtain ⟨Z1, e, hz⟩ := ih P X1 Y1 (X2 ++ (Y2 ++ S)) (by omega) hc.1 hc.2 hSX.left hSY.left (by simp only [List.length_append]; omega)
        refine ⟨Z1, ?_, hz⟩
        rw [show (decide ((a : Int) < (st : Int)) && decide ((st : Int) < (mid : Int))) = true by rw [Bool.and_eq_true, decide_eq_true_iff, decide_eq_true_iff]; omega]
        rw [ha, show a + X1.length = st from by omega, show st + Y1.length = mid from by omega] at e
        rw [e]; rfl
      · refine ⟨X1 ++ Y1, ?_, StS.self ?_⟩
        · rw [show (decide ((a : Int) < (st : Int)) && decide ((st : Int) < (mid : Int))) = false by rw [Bool.and_eq_false_iff, decide_eq_false_iff_not, decide_eq_false_iff_not]; omega]
          simp
        · rcases Nat.eq_zero_or_pos X1.length with h0 | h0
          · rw [List.length_eq_zero_iff.1 h0]; simpa using hSY.left
          · rw [List.length_eq_zero_iff.1 (show Y1.length = 0 by omega)]; simpa using hSX.left
    have hlZ1 : Z1.length = X1.length + Y1.length := FE.length hs _ (by simp) hZ1.1.symm
    obtain ⟨Z2, hr2, hZ2⟩ : ∃ Z2, (bif ((decide ((mid : Int) < ((mid + m - st : Nat) : Int))) && (decide (((mid + m - st : Nat) : Int) < (b : Int)))) then (Option.bind (iterF (symF cf) n (P ++ (Z1 ++ (X2 ++ (Y2 ++ S))), (mid : Int), ((mid + m - st : Nat) : Int), (b : Int))) fun (y334 : List α) => some y334) else some (P ++ (Z1 ++ (X2 ++ (Y2 ++ S))))) = some (P ++ (Z1 ++ (Z2 ++ S))) ∧ StS (ltc cf) (X2 ++ Y2) Z2 := by
      by_cases hc : 0 < X2.length ∧ 0 < Y2.length
      · obtain ⟨Z2, e, hz⟩ := ih (P ++ Z1) X2 Y2 S (by omega) hc.1 hc.2 hSX.right hSY.right (by simp only [List.length_append]; omega)
        refine ⟨Z2, ?_, hz⟩
        rw [show (decide ((mid : Int) < ((mid + m - st : Nat) : Int)) && decide (((mid + m - st : Nat) : Int) < (b : Int))) = true by rw [Bool.and_eq_true, decide_eq_true_iff, decide_eq_true_iff]; omega]
        rw [List.length_append, show P.length + Z1.length = mid from by omega, show mid + X2.length = mid + m - st from by omega, show mid + m - st + Y2.length = b from by omega, List.append_assoc] at e
        rw [e]; simp
      · refine ⟨X2 ++ Y2, ?_, StS.self ?_⟩
        · rw [show (decide ((mid : Int) < ((mid + m - st : Nat) : Int)) && decide (((mid + m - st : Nat) : Int) < (b : Int))) = false by rw [Bool.and_eq_false_iff, decide_eq_false_iff_not, decide_eq_false_iff_not]; omega]
          simp
        · rcases Nat.eq_zero_or_pos X2.length with h0 | h0
          · rw [List.length_eq_zero_iff.1 h0]; simpa using hSY.right
          · rw [List.length_eq_zero_iff.1 (show Y2.length = 0 by omega)]; simpa using hSX.right
    refine ⟨Z1 ++ Z2, ?_, merge4 hs hSX hSY c1 c2 hZ1 hZ2⟩
    unfold gsymMerge_b
    rw [show ((IntKind.wrap .i64 ((m : Int) - (a : Int))) == 1) = false by rw [wrap64 (by omega) (by omega)]; simp; omega, show ((IntKind.wrap .i64 ((b : Int) - (m : Int))) == 1) = false by rw [wrap64 (by omega) (by omega)]; simp; omega]
    simp only [cond_false, hmid1, hlohi, Option.bind_some, h1, hend, hrot, hr1, hr2]
    simp
end
end Go.GB

/- Stable sorting: the whole of it. -/
set_option linter.unusedVariables false
namespace Go.GB
section
variable {α : Type}
/-- Full runs of k elements, each sorted. -/
inductive Full (lt : α → α → Bool) (k : Nat) : List α → Prop
  | nil : Full lt k []
  | snoc {D x : List α} : Full lt k D → x.length = k → Sorted lt x → Full lt k (D ++ x)
/-- Runs of k elements, the last one may be shorter. -/
inductive Runs (lt : α → α → Bool) (k : Nat) : List α → Prop
  | last {x : List α} : x.length ≤ k → Sorted lt x → Runs lt k x
  | cons {x R : List α} : x.length = k → Sorted lt x → Runs lt k R → Runs lt k (x ++ R)
variable {lt : α → α → Bool} {k : Nat}
theorem Full.runs {D : List α} (h : Full lt k D) : ∀ {R : List α}, Runs lt k R → Runs lt k (D ++ R) := by
  induction h with
  | nil => intro R hR; exact hR
  | snoc h1 h2 h3 ih => intro R hR; rw [List.append_assoc]; exact ih (.cons h2 h3 hR)
theorem Runs.sorted {R : List α} (h : Runs lt k R) (hk : R.length ≤ k) (hk0 : 0 < k) : Sorted lt R := by
  cases h with
  | last h1 h2 => exact h2
  | @cons x R h1 h2 h3 =>
    rw [List.length_append] at hk
    have : R = [] := List.length_eq_zero_iff.1 (by omega)
    rw [this, List.append_nil]; exact h2
theorem Runs.two {R : List α} (h : Runs lt k R) (hk : k + k ≤ R.length) : ∃ x y R', R = x ++ (y ++ R') ∧ x.length = k ∧ y.length = k ∧ Sorted lt x ∧ Sorted lt y ∧ Runs lt k R' := by
  cases h with
  | last h1 h2 =>
    have h0 : k = 0 := by omega
    subst h0
    have : R = [] := List.length_eq_zero_iff.1 (by omega)
    subst this
    exact ⟨[], [], [], rfl, rfl, rfl, List.Pairwise.nil, List.Pairwise.nil, .last (by simp) List.Pairwise.nil⟩
  | @cons x R h1 h2 h3 =>
    rw [List.length_append] at hk
    cases h3 with
    | last h4 h5 => exact ⟨x, R, [], by simp, h1, by omega, h2, h5, .last (by simp) List.Pairwise.nil⟩
    | @cons y R' h4 h5 h6 => exact ⟨x, y, R', rfl, h1, h4, h2, h5, h6⟩
theorem Runs.one {R : List α} (h : Runs lt k R) (h1 : k < R.length) (h2 : R.length < k + k) : ∃ x y, R = x ++ y ∧ x.length = k ∧ Sorted lt x ∧ Sorted lt y := by
  cases h with
  | last h3 h4 => omega
  | @cons x R h3 h4 h5 =>
    rw [List.length_append] at h1 h2
    exact ⟨x, R, rfl, h3, h4, h5.sorted (by omega) (by omega)⟩
end
section
variable {α : Type} {cf : α → α → Int}
theorem gsymMerge_eq (hs : Swo (ltc cf)) {l P X Y S : List α} {a m b : Int} (hl : l = P ++ (X ++ (Y ++ S))) (hX : 0 < X.length) (hY : 0 < Y.length) (hSX : Sorted (ltc cf) X) (hSY : Sorted (ltc cf) Y) (hlen : l.length < 2147483648)
    (ha : a = (P.length : Int)) (hm : m = ((P.length + X.length : Nat) : Int)) (hb : b = ((P.length + X.length + Y.length : Nat) : Int)) : ∃ Z, gsymMerge cf l a m b = some (P ++ (Z ++ S)) ∧ StS (ltc cf) (X ++ Y) Z := by
  subst hl ha hm hb
  simp only [List.length_append] at hlen
  exact gsym_eq hs 4294967296 P X Y S (by omega) hX hY hSX hSY (by omega)
/-- Runs of twenty. -/
theorem gstable_first (hs : Swo (ltc cf)) (n : Int) (m : Nat) : ∀ (D0 D R : List α), R.length ≤ m → Full (ltc cf) 20 D → FE (ltc cf) D D0 → n = ((D.length + R.length : Nat) : Int) → D.length + R.length < 2147483648 →
    ∃ D' R', loopO (gstable_l25 cf n) (D ++ R, ((D.length : Nat) : Int), ((D.length + 20 : Nat) : Int)) = some (D' ++ R', ((D'.length : Nat) : Int)) ∧ R'.length < 20 ∧ Full (ltc cf) 20 D' ∧ n = ((D'.length + R'.length : Nat) : Int) ∧ FE (ltc cf) (D' ++ R') (D0 ++ R) := by
  induction m with
  | zero =>
    intro D0 D R hR hF hFE hn hl
    refine ⟨D, R, loopO_done ?_, by omega, hF, hn, hFE.append (FE.refl R)⟩
    unfold gstable_l25
    rw [show decide (((D.length + 20 : Nat) : Int) ≤ n) = false from decide_eq_false (by omega)]; rfl
  | succ m ih =>
    intro D0 D R hR hF hFE hn hl
    by_cases h20 : R.length < 20
    · refine ⟨D, R, loopO_done ?_, h20, hF, hn, hFE.append (FE.refl R)⟩
      unfold gstable_l25
      rw [show decide (((D.length + 20 : Nat) : Int) ≤ n) = false from decide_eq_false (by omega)]; rfl
    · obtain ⟨x, R, rfl, hx⟩ := split_at (Y := R) (k := 20) (by omega)
      have hxl : (x ++ R).length = x.length + R.length := List.length_append
      obtain ⟨Z, h1, h2⟩ := gins_eq (cf := cf) hs (l := D ++ (x ++ R)) (P := D) (X := x) (S := R) (a := ((D.length : Nat) : Int)) (b := ((D.length + 20 : Nat) : Int)) rfl (by rw [List.length_append]; omega) rfl (by rw [hx])
      have hZ : Z.length = 20 := FE.length hs _ hx h2.1.symm
      have hDZ : (D ++ Z).length = D.length + 20 := by rw [List.length_append, hZ]
      obtain ⟨D', R', h3, h4, h5, h6, h7⟩ := ih (D0 ++ x) (D ++ Z) R (by omega) (.snoc hF hZ h2.2) (hFE.append h2.1) (by omega) (by omega)
      refine ⟨D', R', ?_, h4, h5, h6, by simpa using h7⟩
      rw [loopO_step (s' := ((D ++ Z) ++ R, (((D ++ Z).length : Nat) : Int), (((D ++ Z).length + 20 : Nat) : Int))) (by
        unfold gstable_l25
        rw [show decide (((D.length + 20 : Nat) : Int) ≤ n) = true from decide_eq_true (by omega)]
        simp only [cond_true, h1, Option.bind_some]
        rw [wrap64 (by omega) (by omega), List.length_append, hZ, List.append_assoc]
        congr 3), h3]
/-- Runs of k are made runs of twice as many. -/
theorem gstable_merge (hs : Swo (ltc cf)) (n : Int) (k : Nat) (hk : 0 < k) (m : Nat) (s : List α × Int) (hsk : s.2 = (k : Int)) : ∀ (D R : List α), R.length ≤ m → Full (ltc cf) (2 * k) D → Runs (ltc cf) k R → n = ((D.length + R.length : Nat) : Int) → D.length + R.length + 2 * k < 8589934592 → D.length + R.length < 2147483648 →
    ∃ D' R', loopO (gstable_l95 cf n s) (D ++ R, ((D.length : Nat) : Int), ((D.length + 2 * k : Nat) : Int)) = some (D' ++ R', ((D'.length : Nat) : Int)) ∧ R'.length < 2 * k ∧ Full (ltc cf) (2 * k) D' ∧ Runs (ltc cf) k R' ∧ n = ((D'.length + R'.length : Nat) : Int) ∧ FE (ltc cf) (D' ++ R') (D ++ R) := by
  induction m with
  | zero =>
    intro D R hR hF hRr hn hl hl2
    refine ⟨D, R, loopO_done ?_, by omega, hF, hRr, hn, FE.refl _⟩
    unfold gstable_l95
    rw [show decide (((D.length + 2 * k : Nat) : Int) ≤ n) = false from decide_eq_false (by omega)]; rfl
  | succ m ih =>
    intro D R hR hF hRr hn hl hl2
    by_cases h2k : R.length < 2 * k
    · refine ⟨D, R, loopO_done ?_, h2k, hF, hRr, hn, FE.refl _⟩
      unfold gstable_l95
      rw [show decide (((D.length + 2 * k : Nat) : Int) ≤ n) = false from decide_eq_false (by omega)]; rfl
    · obtain ⟨x, y, R, rfl, hx, hy, hSx, hSy, hRr'⟩ := hRr.two (by omega)
      simp only [List.length_append] at hR hn hl hl2
      obtain ⟨Z, h1, h2⟩ := gsymMerge_eq (cf := cf) hs (l := D ++ (x ++ (y ++ R))) (P := D) (X := x) (Y := y) (S := R) (a := ((D.length : Nat) : Int)) (m := IntKind.wrap .i64 (((D.length : Nat) : Int) + s.2)) (b := ((D.length + 2 * k : Nat) : Int)) rfl (by omega) (by omega) hSx hSy (by simp only [List.length_append]; omega) rfl
        (by rw [hsk, wrap64 (by omega) (by omega)]; omega) (by omega)
      have hZ : Z.length = 2 * k := FE.length hs _ (by rw [List.length_append]; omega) h2.1.symm
      have hDZ : (D ++ Z).length = D.length + 2 * k := by rw [List.length_append, hZ]
      obtain ⟨D', R', h3, h4, h5, h6, h7, h8⟩ := ih (D ++ Z) R (by omega) (.snoc hF hZ h2.2) hRr' (by omega) (by omega) (by omega)
      refine ⟨D', R', ?_, h4, h5, h6, h7, h8.trans ?_⟩
      · rw [loopO_step (s' := ((D ++ Z) ++ R, (((D ++ Z).length : Nat) : Int), (((D ++ Z).length + 2 * k : Nat) : Int))) (by
          unfold gstable_l95
          rw [show decide (((D.length + 2 * k : Nat) : Int) ≤ n) = true from decide_eq_true (by omega)]
          simp only [cond_true, h1, Option.bind_some]
          rw [hsk, wrap64 (x := 2 * (k : Int)) (by omega) (by omega), wrap64 (by omega) (by omega), List.length_append, hZ, List.append_assoc]
          congr 3), h3]
      · have := FE.mid (P := D) (S := R) h2.1
        simpa using this
theorem gstable_rounds (hs : Swo (ltc cf)) (l0 : List α) (m : Nat) : ∀ (l : List α) (k : Nat), 0 < k → l.length - k ≤ m → Runs (ltc cf) k l → FE (ltc cf) l l0 → l.length < 2147483648 →
    ∃ z, loopO (gstable_l68 cf ((l.length : Nat) : Int)) (l, ((k : Nat) : Int)) = some z ∧ StS (ltc cf) l0 z := by
  induction m with
  | zero =>
    intro l k hk hm hR hFE hl
    refine ⟨l, loopO_done ?_, hFE, hR.sorted (by omega) hk⟩
    unfold gstable_l68
    rw [show decide (((k : Nat) : Int) < ((l.length : Nat) : Int)) = false from decide_eq_false (by omega)]; rfl
  | succ m ih =>
    intro l k hk hm hR hFE hl
    by_cases hkl : l.length ≤ k
    · refine ⟨l, loopO_done ?_, hFE, hR.sorted hkl hk⟩
      unfold gstable_l68
      rw [show decide (((k : Nat) : Int) < ((l.length : Nat) : Int)) = false from decide_eq_false (by omega)]; rfl
    · obtain ⟨D, R, h1, h2, h3, h4, h5, h6⟩ := gstable_merge (cf := cf) hs ((l.length : Nat) : Int) k hk l.length (l, ((k : Nat) : Int)) rfl [] l (Nat.le_refl _) .nil hR (by simp) (by simp; omega) (by simpa using hl)
      simp only [List.nil_append, List.length_nil, Nat.zero_add] at h1 h6
      rw [show ((0 : Nat) : Int) = 0 from rfl] at h1
      have hlen : (D ++ R).length = l.length := by rw [List.length_append]; omega
      obtain ⟨w, hw1, hw2, hw3⟩ : ∃ w, (bif (decide ((IntKind.wrap .i64 (((D.length : Nat) : Int) + ((k : Nat) : Int))) < ((l.length : Nat) : Int))) then (Option.bind (gsymMerge cf (D ++ R) ((D.length : Nat) : Int) (IntKind.wrap .i64 (((D.length : Nat) : Int) + ((k : Nat) : Int))) ((l.length : Nat) : Int)) fun (y115 : List α) => some y115) else some (D ++ R)) = some w ∧ Runs (ltc cf) (2 * k) w ∧ FE (ltc cf) w (D ++ R) := by
        by_cases hRk : k < R.length
        · obtain ⟨x, y, rfl, hx, hSx, hSy⟩ := h4.one hRk (by omega)
          simp only [List.length_append] at h5 hRk h2
          obtain ⟨Z, g1, g2⟩ := gsymMerge_eq (cf := cf) hs (l := D ++ (x ++ y)) (P := D) (X := x) (Y := y) (S := []) (a := ((D.length : Nat) : Int)) (m := IntKind.wrap .i64 (((D.length : Nat) : Int) + ((k : Nat) : Int))) (b := ((l.length : Nat) : Int)) (by simp) (by omega) (by omega) hSx hSy (by simp only [List.length_append]; omega) rfl
            (by rw [wrap64 (by omega) (by omega)]; omega) (by omega)
          refine ⟨D ++ Z, ?_, ?_, ?_⟩
          · rw [show decide ((IntKind.wrap .i64 (((D.length : Nat) : Int) + ((k : Nat) : Int))) < ((l.length : Nat) : Int)) = true from decide_eq_true (by rw [wrap64 (by omega) (by omega)]; omega)]
            rw [g1]; simp
          · refine h3.runs (.last ?_ g2.2)
            rw [FE.length hs _ rfl g2.1.symm, List.length_append]; omega
          · exact (FE.refl D).append g2.1
        · refine ⟨D ++ R, ?_, h3.runs (.last (by omega) (h4.sorted (by omega) hk)), FE.refl _⟩
          rw [show decide ((IntKind.wrap .i64 (((D.length : Nat) : Int) + ((k : Nat) : Int))) < ((l.length : Nat) : Int)) = false from decide_eq_false (by rw [wrap64 (by omega) (by omega)]; omega)]
          rfl
      have hwl : w.length = l.length := by rw [← hlen]; exact FE.length hs _ rfl hw3.symm
      obtain ⟨z, hz, hz2⟩ := ih w (2 * k) (by omega) (by omega) hw2 (hw3.trans (h6.trans hFE)) (by omega)
      refine ⟨z, ?_, hz2⟩
      rw [hwl] at hz
      rw [loopO_step (s' := (w, ((2 * k : Nat) : Int))) (by
        unfold gstable_l68
        rw [show decide (((k : Nat) : Int) < ((l.length : Nat) : Int)) = true from decide_eq_true (by omega)]
        simp only [cond_true]
        rw [wrap64 (x := 2 * ((k : Nat) : Int)) (by omega) (by omega), show (2 * ((k : Nat) : Int)) = ((2 * k : Nat) : Int) from by omega, h1]
        simp only [Option.bind_some, hw1]
        rw [wrap64 (by omega) (by omega)]
        congr 3; omega), hz]
/-- The library's stable sort is a stable sort. -/
theorem gSortStable_eq (hs : Swo (ltc cf)) (l : List α) (hl : l.length < 2147483648) : ∃ z, gSortStable cf l = some z ∧ StS (ltc cf) l z := by
  obtain ⟨D, R, h1, h2, h3, h4, h5⟩ := gstable_first (cf := cf) hs ((l.length : Nat) : Int) l.length [] [] l (Nat.le_refl _) .nil (FE.refl _) (by simp) (by simpa using hl)
  simp only [List.nil_append, List.length_nil, Nat.zero_add] at h1 h5
  obtain ⟨Z, g1, g2⟩ := gins_eq (cf := cf) hs (l := D ++ R) (P := D) (X := R) (S := []) (a := ((D.length : Nat) : Int)) (b := ((l.length : Nat) : Int)) (by simp) (by rw [List.length_append]; omega) rfl h4
  have hZ : Z.length = R.length := FE.length hs _ rfl g2.1.symm
  obtain ⟨z, e1, e2⟩ := gstable_rounds (cf := cf) hs l (D ++ Z).length (D ++ Z) 20 (by omega) (by omega) (h3.runs (.last (by omega) g2.2)) (((FE.refl D).append g2.1).trans h5) (by rw [List.length_append]; omega)
  refine ⟨z, ?_, e2⟩
  unfold gSortStable gstable
  have h0 : loopO (gstable_l25 cf ((l.length : Nat) : Int)) (l, 0, 20) = some (D ++ R, ((D.length : Nat) : Int)) := h1
  rw [h0]
  simp only [Option.bind_some, g1, List.append_nil]
  rw [show ((l.length : Nat) : Int) = (((D ++ Z).length : Nat) : Int) by rw [List.length_append, hZ]; exact h4]
  have e1' : loopO (gstable_l68 cf (((D ++ Z).length : Nat) : Int)) (D ++ Z, 20) = some z := e1
  rw [e1']; rfl
end
end Go.GB

/- Plain laws of chapter 4: lists alike, lists that are gathered, label sets that are sorted. -/
set_option linter.unusedVariables false
set_option maxRecDepth 100000
namespace Go.Proofs.YtnlkfajnaelnnaaGreatDoor
open Go.GB Go.Lib
abbrev LB := S49
/-- A loop over a list that gathers. -/
theorem fold_up {α β ρ : Type} {body : β × Int → Option ((β × Int) ⊕ ρ)} (l : List α) (f : β → α → β) (g : β → ρ) (Inv : β → Nat → Prop)
    (h : ∀ (acc : β) (i : Nat) (hi : i < l.length), Inv acc i → body (acc, (i : Int)) = some (.inl (f acc l[i], ((i + 1 : Nat) : Int))) ∧ Inv (f acc l[i]) (i + 1))
    (he : ∀ acc, Inv acc l.length → body (acc, (l.length : Int)) = some (.inr (g acc))) :
    ∀ (d i : Nat) (acc : β), l.length - i = d → i ≤ l.length → Inv acc i → loopO body (acc, (i : Int)) = some (g ((l.drop i).foldl f acc)) := by
  intro d
  induction d with
  | zero =>
    intro i acc hd hi hI
    obtain rfl : i = l.length := by omega
    rw [List.drop_length]
    exact loopO_done (he acc hI)
  | succ d ih =>
    intro i acc hd hi hI
    have hlt : i < l.length := by omega
    obtain ⟨h1, h2⟩ := h acc i hlt hI
    rw [List.drop_eq_getElem_cons hlt, List.foldl_cons, loopO_step h1]
    exact ih (i + 1) _ (by omega) (by omega) h2
theorem fold_filter {α : Type} (p : α → Bool) : ∀ (l acc : List α), l.foldl (fun acc x => bif p x then acc ++ [x] else acc) acc = acc ++ l.filter p
  | [], acc => by simp
  | x :: l, acc => by
    rw [List.foldl_cons, fold_filter p l]
    cases h : p x <;> simp [h]
/-- A loop that gathers those of a kind. -/
theorem filter_up {α ρ : Type} {body : List α × Int → Option ((List α × Int) ⊕ ρ)} (l : List α) (p : α → Bool) (g : List α → ρ) (hl : l.length ≤ 2147483648)
    (h : ∀ (acc : List α) (i : Nat) (hi : i < l.length), acc.length ≤ i → body (acc, (i : Int)) = some (.inl ((bif p l[i] then acc ++ [l[i]] else acc), ((i + 1 : Nat) : Int))))
    (he : ∀ acc, body (acc, (l.length : Int)) = some (.inr (g acc))) : loopO body ([], 0) = some (g (l.filter p)) := by
  have := fold_up (body := body) l (fun acc x => bif p x then acc ++ [x] else acc) g (fun acc i => acc.length ≤ i) (fun acc i hi hI => ⟨h acc i hi hI, by cases p l[i] <;> simp <;> omega⟩) (fun acc _ => he acc) l.length 0 [] (by omega) (by omega) (by simp)
  rw [List.drop_zero, fold_filter, List.nil_append] at this
  exact this
/-- Is there one of a kind? -/
theorem up_any {ρ : Type} {body : Int → Option (Int ⊕ (Unit ⊕ ρ))} {n : Nat} (q : Nat → Bool) (v : ρ) (h : ∀ i : Nat, i < n → body i = some (bif q i then .inr (.inr v) else .inl ((i + 1 : Nat) : Int))) (he : body n = some (.inr (.inl ()))) :
    loopO body 0 = some (bif (List.range n).any q then .inr v else .inl ()) := by
  rw [up_find (fun i => if q i then some v else none) (fun i hi => by rw [h i hi]; cases q i <;> rfl) he]
  congr 1
  cases ha : (List.range n).any q with
  | true =>
    obtain ⟨i, hi, hq⟩ := List.any_eq_true.1 ha
    cases hf : (List.range n).findSome? (fun i => if q i then some v else none) with
    | none =>
      rw [List.findSome?_eq_none_iff] at hf
      have := hf i hi
      rw [if_pos hq] at this; cases this
    | some b =>
      obtain ⟨j, _, hj⟩ := List.exists_of_findSome?_eq_some hf
      split at hj
      · cases hj; rfl
      · cases hj
  | false =>
    rw [List.any_eq_false] at ha
    have : (List.range n).findSome? (fun i => if q i then some v else none) = none := by
      rw [List.findSome?_eq_none_iff]
      intro i hi
      rw [if_neg (ha i hi)]
    rw [this]; rfl
theorem any_range {α : Type} (l : List α) (f : α → Bool) : ((List.range l.length).any fun i => (l[i]?).any f) = l.any f := by
  rw [Bool.eq_iff_iff, List.any_eq_true, List.any_eq_true]
  constructor
  · rintro ⟨i, hi, h⟩
    have hi' := List.mem_range.1 hi
    rw [List.getElem?_eq_getElem hi', Option.any_some] at h
    exact ⟨l[i], List.getElem_mem hi', h⟩
  · rintro ⟨x, hx, h⟩
    obtain ⟨i, hi, rfl⟩ := List.getElem_of_mem hx
    exact ⟨i, List.mem_range.2 hi, by rw [List.getElem?_eq_getElem hi, Option.any_some]; exact h⟩
theorem LB_ext {x y : LB} : ((x.f0.toList == y.f0.toList) && (x.f1.toList == y.f1.toList)) = true ↔ x = y := by
  rw [Bool.and_eq_true, toList_inj, toList_inj]
  constructor
  · rintro ⟨h1, h2⟩
    cases x; cases y; simp only at h1 h2; rw [h1, h2]
  · rintro rfl; exact ⟨rfl, rfl⟩
theorem same_eq (a b : List LB) (ha : a.length < 4294967296) : ∃ r, tocsinlaw04_same a b = some r ∧ (r = true ↔ a = b) := by
  unfold tocsinlaw04_same
  by_cases hl : a.length = b.length
  · rw [show ((a.length : Int) != (b.length : Int)) = false by rw [hl]; simp, cond_false]
    have key : ∀ d i : Nat, a.length - i = d → i ≤ a.length → ∃ r : Unit ⊕ Bool, loopO (tocsinlaw04_same_l18 a b) (i : Int) = some r ∧ ((r = .inl () ∧ a.drop i = b.drop i) ∨ (r = .inr false ∧ a.drop i ≠ b.drop i)) := by
      intro d
      induction d with
      | zero =>
        intro i hd hi
        refine ⟨.inl (), loopO_done (by
          unfold tocsinlaw04_same_l18
          rw [show decide ((i : Int) < (a.length : Int)) = false from decide_eq_false (by omega)]; rfl), .inl ⟨rfl, ?_⟩⟩
        rw [List.drop_of_length_le (by omega), List.drop_of_length_le (by omega)]
      | succ d ih =>
        intro i hd hi
        have h1 : i < a.length := by omega
        have h2 : i < b.length := by omega
        have hx : ix a (i : Int) = some a[i] := by rw [ix_nat, List.getElem?_eq_getElem h1]
        have hy : ix b (i : Int) = some b[i] := by rw [ix_nat, List.getElem?_eq_getElem h2]
        rw [List.drop_eq_getElem_cons h1, List.drop_eq_getElem_cons h2]
        cases he : ((a[i].f0.toList == b[i].f0.toList) && (a[i].f1.toList == b[i].f1.toList)) with
        | true =>
          obtain ⟨r, hr, hr'⟩ := ih (i + 1) (by omega) (by omega)
          refine ⟨r, ?_, ?_⟩
          · rw [loopO_step (s' := ((i + 1 : Nat) : Int)) (by
              unfold tocsinlaw04_same_l18
              rw [show decide ((i : Int) < (a.length : Int)) = true from decide_eq_true (by omega)]
              simp only [cond_true, hx, hy, Option.bind_some, he, Bool.not_true, cond_false, wrap_up (show i < 4294967296 by omega)])]
            exact hr
          · rw [LB_ext.1 he]
            rcases hr' with ⟨q1, q2⟩ | ⟨q1, q2⟩
            · exact .inl ⟨q1, by rw [q2]⟩
            · exact .inr ⟨q1, fun e => q2 (List.cons.inj e).2⟩
        | false =>
          refine ⟨.inr false, loopO_done (by
            unfold tocsinlaw04_same_l18
            rw [show decide ((i : Int) < (a.length : Int)) = true from decide_eq_true (by omega)]
            simp only [cond_true, hx, hy, Option.bind_some, he, Bool.not_false]), .inr ⟨rfl, fun e => ?_⟩⟩
          rw [LB_ext.2 (List.cons.inj e).1] at he; cases he
    obtain ⟨r, hr, hr'⟩ := key a.length 0 (by omega) (by omega)
    rw [show ((0 : Nat) : Int) = 0 from rfl] at hr
    rw [hr, Option.bind_some]
    rw [List.drop_zero, List.drop_zero] at hr'
    rcases hr' with ⟨rfl, e⟩ | ⟨rfl, e⟩
    · exact ⟨true, rfl, by simp [e]⟩
    · exact ⟨false, rfl, by simp [e]⟩
  · rw [show ((a.length : Int) != (b.length : Int)) = true by simp; omega, cond_true]
    exact ⟨false, rfl, by simp; intro e; exact hl (by rw [e])⟩
theorem same_self (a : List LB) (ha : a.length < 4294967296) : tocsinlaw04_same a a = some true := by
  obtain ⟨r, h1, h2⟩ := same_eq a a ha
  rw [h1, h2.2 rfl]
end Go.Proofs.YtnlkfajnaelnnaaGreatDoor

set_option linter.unusedVariables false
set_option maxRecDepth 100000
namespace Go.Proofs.YtnlkfajnaelnnaaGreatDoor
open Go.GB Go.Lib
def behind : LB := ⟨(⟨#[98, 101, 104, 105, 110, 100]⟩ : ByteArray), (⟨#[119, 104, 97, 116, 32, 119, 97, 115, 32, 104, 97, 110, 100, 101, 100, 32, 105, 110]⟩ : ByteArray)⟩
theorem Lent_eq (l : List LB) (hl : l.length < 2147483648) : tocsinlaw04_Lent l = some (l, l ++ [behind]) := by
  unfold tocsinlaw04_Lent
  rw [app_eq (by simp; omega)]
  simp only [Option.bind_some, List.nil_append]
  rw [app_eq (by simp; omega)]
  simp only [Option.bind_some]
  unfold lx
  rw [if_pos (by simp; omega)]
  simp [behind]
theorem Kept_eq (l : List LB) (hl : l.length < 2147483648) : tocsinlaw04_Kept (l, l ++ [behind]) l = some true := by
  unfold tocsinlaw04_Kept
  simp only [same_self l (by omega), Option.bind_some, cond_true]
  unfold lx
  rw [wrap_up (by omega), if_pos (by simp; omega)]
  simp only [Option.bind_some]
  rw [show ((l ++ [behind]).take (((l.length + 1 : Nat) : Int)).toNat).drop (0 : Int).toNat = l ++ [behind] by
    rw [Int.toNat_natCast, Int.toNat_zero, List.drop_zero, List.take_of_length_le (by simp)]]
  rw [ix_at (A := l) (B := []) (x := behind) rfl rfl]
  simp only [Option.bind_some, behind, beq_self_eq_true]
end Go.Proofs.YtnlkfajnaelnnaaGreatDoor
