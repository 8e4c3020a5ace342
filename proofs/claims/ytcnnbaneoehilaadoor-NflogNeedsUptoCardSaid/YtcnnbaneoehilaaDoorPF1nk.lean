/- Plain laws: what is right, what lies within; logs of one mark. -/
import Derived.Test.YtcnnbaneoehilaaDoorSpk
import Derived.Test.YtcnnbaneoehilaaDoorRows
import Derived.Deep.Slices
import Derived.Below
import Derived.Test.YtcnnbaneoehilaaDoorN1k
import Derived.Lib.ValidLaws
import Derived.Lib.Bytealg
import Derived.KernelRfl
import Derived.Lib.LaidU8T
import Derived.Shelf.Unicode.ValidAny
/- From data that are read to what the walks ask: rows. -/
set_option linter.unusedVariables false
set_option linter.unusedSimpArgs false
namespace Go.GB
open Go Go.RowKit
open Go.Proofs.YtcnnbaneoehilaaDoor.Rows (uptoBulk uptoBulkAll)

def immOf (W : World) : Imm := ⟨fun b => W.heap[b]?, W.os, W.tape, W.output, 0⟩
theorem holds_immOf (W : World) : Holds (immOf W) [] W := ⟨fun _ _ h => h, by simp, by simp, by simp, rfl, rfl, rfl, Nat.zero_le _⟩
theorem below_of {I' : Imm} {L' : Own} {W W' : World} (h : Holds I' L' W') (hI : immOf W ≤ I') : Below W.heap.size W W' := by
  refine ⟨by rw [h.os, hI.os]; rfl, by rw [h.tape, hI.tape]; rfl, by rw [h.out, hI.out]; rfl, ?_, fun k hk => ?_⟩
  · rcases Nat.eq_zero_or_pos W.heap.size with h0 | h0
    · omega
    · have : W.heap[W.heap.size - 1]? = some (W.heap[W.heap.size - 1]'(by omega)) := Array.getElem?_eq_getElem _
      have := lt_of_heap (h.imm _ _ (hI.h _ _ this))
      omega
  · have : W.heap[k]? = some (W.heap[k]) := Array.getElem?_eq_getElem hk
    rw [this]; exact h.imm _ _ (hI.h _ _ this)
theorem imm_cell {W : World} {a : Addr} {v : Value} (h : W.cell? a = some v) : (immOf W).cell a = some v := h
theorem run_of_cells {W : World} {a : Addr} {n : Nat} {cs : List Value} (h : W.cells? 0 a n = some cs) : RunAt (immOf W) a cs := fun j v hj => by
  unfold World.cells? at h
  rw [if_pos (Nat.zero_le _)] at h
  have hl := mapM_some_length h
  have hj' : j < n := by have := (List.getElem?_eq_some_iff.1 hj).1; simpa [hl] using this
  have := mapM_some_get h j j (by simp [hj'])
  exact imm_cell (this.trans hj)

def Reads {α : Type} (P : Program) (T : TypeId) (d : Kd α) (w : α → Nat → Prop) : Prop := ∀ {H : Type} {enc : TypeId × Value → H} {W : World} {spare : Nat → Bool} {held : Bool} {fuel : Nat} {cs : List Value} {x : DataW H × List MemPlace},
  DataW.trod enc P W 0 spare held fuel T cs = some x → uptoBulk x.1 ≤ 1048576 → ∃ y, d.R (immOf W) y cs ∧ w y (uptoBulk x.1)
theorem reads_int {P : Program} {T : TypeId} {k : IntKind} (h : P.underlying T = some (.int k)) : Reads P T (Kd.int k) (wInt k) := fun ht _ => by
  obtain ⟨n, rfl, _, hw⟩ := DataW.trod_int h ht
  simp only [Lit.wf, Bool.and_eq_true, decide_eq_true_eq] at hw
  exact ⟨n, rfl, hw⟩
theorem reads_bool {P : Program} {T : TypeId} (h : P.underlying T = some .bool) : Reads P T Kd.bool wBool := fun ht _ => by
  obtain ⟨n, rfl, _⟩ := DataW.trod_bool h ht
  exact ⟨n, rfl, trivial⟩
theorem reads_str {P : Program} {T : TypeId} (h : P.underlying T = some .string) : Reads P T Kd.str wStr := fun ht _ => by
  obtain ⟨n, rfl, rfl, _⟩ := DataW.trod_string h ht
  exact ⟨n, rfl, by simp [uptoBulk, wStr]⟩
theorem bulk_pos {H : Type} (d : DataW H) : 1 ≤ uptoBulk d := by
  cases d with
  | lit l => cases l <;> simp [uptoBulk]
  | _ => simp [uptoBulk]
theorem bulkAll_ge {H : Type} : ∀ (l : List (DataW H)), l.length ≤ uptoBulkAll l
  | [] => by simp
  | d :: r => by have := bulk_pos d; have := bulkAll_ge r; simp only [uptoBulkAll, List.length_cons]; omega
theorem bulkAll_mem {H : Type} {d : DataW H} : ∀ {l : List (DataW H)}, d ∈ l → uptoBulk d ≤ uptoBulkAll l
  | [], h => by cases h
  | e :: r, h => by
    simp only [uptoBulkAll]
    rcases List.mem_cons.1 h with rfl | h
    · omega
    · have := bulkAll_mem h; omega
theorem choose_list {α : Type} {p : Nat → α → Prop} : ∀ (n : Nat), (∀ i, i < n → ∃ y, p i y) → ∃ xs : List α, xs.length = n ∧ ∀ i x, xs[i]? = some x → p i x
  | 0, _ => ⟨[], rfl, fun i x h => by simp at h⟩
  | m + 1, key => by
    obtain ⟨xs, hxl, hx⟩ := choose_list m (fun i hi => key i (by omega))
    obtain ⟨y, hy⟩ := key m (by omega)
    refine ⟨xs ++ [y], by simp [hxl], fun i x h => ?_⟩
    rcases Nat.lt_or_ge i m with hi | hi
    · rw [List.getElem?_append_left (by omega)] at h; exact hx i x h
    · rw [List.getElem?_append_right (by omega), hxl] at h
      have hi0 : i - m = 0 := by have := (List.getElem?_eq_some_iff.1 h).1; simpa using this
      rw [hi0] at h
      simp only [List.getElem?_cons_zero, Option.some.injEq] at h
      subst h
      rw [show i = m from by omega]
      exact hy
theorem wSl_of {α H : Type} {w : α → Nat → Prop} : ∀ (xs : List α) (es : List (DataW H)), xs.length = es.length → (∀ (i : Nat) (x : α) (e : DataW H), xs[i]? = some x → es[i]? = some e → w x (uptoBulk e)) → wSl w xs (uptoBulkAll es)
  | [], _, _, _ => trivial
  | x :: r, [], h, _ => by simp at h
  | x :: r, e :: es, h, hw => ⟨uptoBulk e, uptoBulkAll es, hw 0 x e rfl rfl, wSl_of r es (by simpa using h) (fun i x' e' h1 h2 => hw (i + 1) x' e' (by simpa using h1) (by simpa using h2)), by simp [uptoBulkAll], bulk_pos e⟩
theorem reads_slice {α : Type} {P : Program} {T e : TypeId} {d : Kd α} {w : α → Nat → Prop} (hu : P.underlying T = some (.slice e)) (hn : P.cellsOf e = d.n) (hr : Reads P e d w) : Reads P T (Kd.sl d) (wSl w) := by
  intro H enc W spare held fuel cs x ht hb
  rcases DataW.trod_slice hu ht with ⟨rfl, rfl⟩ | ⟨a, len, cap, elems, rest, n, rfl, rfl, rfl, _, hlc, hcm, hel, hat, _, _⟩
  · exact ⟨[], ⟨none, 0, rfl, RepS.nil _ _⟩, trivial⟩
  · simp only [uptoBulk] at hb
    have hlen := bulkAll_ge (elems.map (·.1))
    rw [List.length_map, hel] at hlen
    have key : ∀ i, i < len → ∃ y, (∃ cs', d.R (immOf W) y cs' ∧ RunAt (immOf W) (a.add (i * d.n)) cs') ∧ ∀ e, (elems.map (·.1))[i]? = some e → w y (uptoBulk e) := fun i hi => by
      have h1 := hat i hi
      have hie : i < elems.length := by omega
      rw [List.getElem?_eq_getElem hie] at h1
      simp only [Option.bind_eq_some_iff] at h1
      obtain ⟨cs', h2, h3⟩ := h1
      obtain ⟨y, hy, hw⟩ := hr h3 (by
        have := bulkAll_mem (l := elems.map (·.1)) (List.mem_map_of_mem (List.getElem_mem hie))
        omega)
      refine ⟨y, ⟨cs', hy, ?_⟩, fun e he => ?_⟩
      · rw [← hn]
        exact run_of_cells h2
      · rw [List.getElem?_map, List.getElem?_eq_getElem hie] at he
        cases he; exact hw
    have hex := choose_list (p := fun i y => (∃ cs', d.R (immOf W) y cs' ∧ RunAt (immOf W) (a.add (i * d.n)) cs') ∧ ∀ e, (elems.map (·.1))[i]? = some e → w y (uptoBulk e)) len key
    obtain ⟨xs, hxl, hx⟩ := hex
    refine ⟨xs, ⟨some a, cap, by rw [hxl], by omega, by unfold maxLen'; omega, fun i x h => ?_⟩, ?_⟩
    · obtain ⟨⟨cs', h1, h2⟩, _⟩ := hx i x h
      exact ⟨a, cs', rfl, h1, h2⟩
    · exact (wSl_of xs (elems.map (·.1)) (by simp [hxl, hel]) (fun i x e h1 h2 => (hx i x h1).2 e h2)).le (by simp only [uptoBulk]; omega)
theorem pairR {α β : Type} {a : Kd α} {b : Kd β} {I : Imm} {x : α} {y : β} {cs : List Value} {o n m : Nat} (h0 : a.R I x ((cs.drop o).take n)) (h1 : b.R I y (cs.drop m)) (hm : m = o + n) : (Kd.pair a b).R I (x, y) (cs.drop o) := by
  subst hm
  exact ⟨(cs.drop o).take n, (cs.drop o).drop n, (List.take_append_drop _ _).symm, h0, by rw [List.drop_drop]; exact h1⟩
theorem lastR {α : Type} {a : Kd α} {I : Imm} {x : α} {cs : List Value} {o n : Nat} (h : a.R I x ((cs.drop o).take n)) (hl : cs.length = o + n) : a.R I x (cs.drop o) := by
  rwa [List.take_of_length_le (by rw [List.length_drop]; omega)] at h
def fieldD (P : Program) (T : TypeId) (i : Nat) : Field := (P.fieldsOf T).getD i default
/-- A field of a struct that is read. -/
theorem field_read {α : Type} {H : Type} {enc : TypeId × Value → H} {P : Program} {W : World} {spare : Nat → Bool} {held : Bool} {m : Nat} {T t : TypeId} {d : Kd α} {w : α → Nat → Prop} {cs : List Value} {xs : List (DataW H × List MemPlace)} {x : DataW H × List MemPlace} {i o n : Nat}
    (hf : ∀ (i : Nat) (f : Field), (P.fieldsOf T)[i]? = some f → DataW.trod enc P W 0 spare held m f.type ((cs.drop f.offset).take (P.cellsOf f.type)) = xs[i]?)
    (hx : xs[i]? = some x) (h1 : (P.fieldsOf T)[i]? = some (fieldD P T i)) (h2 : (fieldD P T i).type = t) (h3 : (fieldD P T i).offset = o) (h4 : P.cellsOf t = n) (hr : Reads P t d w) (hb : uptoBulk x.1 ≤ 1048576) : ∃ y, d.R (immOf W) y ((cs.drop o).take n) ∧ w y (uptoBulk x.1) := by
  have := hf i _ h1
  rw [hx, h2, h3, h4] at this
  exact hr this hb
theorem calls_of {P : Program} {f : FuncId} {args : Array Value} {W : World} {b : Value} (h : CallsTo P f args (immOf W) [] (fun v I' L' => v = b ∧ [] = L')) : Calls P f args W fun e W' => e = .returned b ∧ Below W.heap.size W W' :=
  (h W (holds_immOf W)).mono fun e W' ⟨v, I', L', he, hI, hh, hv, _⟩ => ⟨by rw [he, hv], below_of hh hI⟩
end Go.GB

/- Plain laws, base: loops that are alike; searches; words of bits. -/
set_option linter.unusedVariables false
set_option linter.unusedSimpArgs false
namespace Go.GB
/-- One round. -/
theorem loopO_step {σ ρ : Type} {b : σ → Option (σ ⊕ ρ)} {s s' : σ} (h : b s = some (.inl s')) : loopO b s = loopO b s' := by rw [loopO_eq, h]; rfl
theorem loopO_done {σ ρ : Type} {b : σ → Option (σ ⊕ ρ)} {s : σ} {r : ρ} (h : b s = some (.inr r)) : loopO b s = some r := by rw [loopO_eq, h]; rfl
/-- A search that goes up: the first place at which there is something to tell. -/
theorem up_find {ρ : Type} {body : Int → Option (Int ⊕ (Unit ⊕ ρ))} {n : Nat} (p : Nat → Option ρ) (h : ∀ i : Nat, i < n → body i = some (match p i with | some r => .inr (.inr r) | none => .inl ((i + 1 : Nat) : Int))) (he : body n = some (.inr (.inl ()))) :
    loopO body 0 = some (match (List.range n).findSome? p with | some r => .inr r | none => .inl ()) := by
  have key : ∀ d i : Nat, i + d = n → loopO body i = some (match (List.range' i d).findSome? p with | some r => .inr r | none => .inl ()) := by
    intro d
    induction d with
    | zero =>
      intro i hi
      have : i = n := by omega
      subst this
      simp [loopO_done he]
    | succ d ih =>
      intro i hi
      have h1 := h i (by omega)
      rw [List.range'_succ, List.findSome?_cons]
      cases hp : p i with
      | some r => rw [hp] at h1; rw [loopO_done h1]
      | none => rw [hp] at h1; rw [loopO_step h1]; exact ih (i + 1) (by omega)
  have := key n 0 (by omega)
  rw [List.range_eq_range']
  exact this
/-- All of a list, by a loop that goes up. -/
theorem up_all {body : Int → Option (Int ⊕ (Unit ⊕ Bool))} {n : Nat} (q : Nat → Bool) (h : ∀ i : Nat, i < n → body i = some (bif q i then .inl ((i + 1 : Nat) : Int) else .inr (.inr false))) (he : body n = some (.inr (.inl ()))) :
    loopO body 0 = some (if (List.range n).all q then .inl () else .inr false) := by
  rw [up_find (fun i => if q i then none else some false) (fun i hi => by rw [h i hi]; cases q i <;> rfl) he]
  congr 1
  by_cases ha : (List.range n).all q = true
  · rw [if_pos ha]
    have : (List.range n).findSome? (fun i => if q i then none else some false) = none := by
      rw [List.findSome?_eq_none_iff]
      intro i hi
      rw [if_pos (List.all_eq_true.1 ha i hi)]
    rw [this]
  · rw [if_neg ha]
    have hx : (List.range n).all q = false := by simpa using ha
    rw [List.all_eq_false] at hx
    obtain ⟨i, hi, hq⟩ := hx
    cases hf : (List.range n).findSome? (fun i => if q i then none else some false) with
    | none =>
      rw [List.findSome?_eq_none_iff] at hf
      have := hf i hi
      rw [if_neg hq] at this; cases this
    | some b =>
      obtain ⟨j, _, hj⟩ := List.exists_of_findSome?_eq_some hf
      split at hj <;> cases hj
      rfl
theorem and63 : ∀ c : Fin 256, bitAnd .u8 ((c.val : Nat) : Int) 63 = ((c.val % 64 : Nat) : Int) := by decide +kernel
theorem and192 : ∀ c : Fin 256, (bitAnd .u8 ((c.val : Nat) : Int) 192 != 128) = !(decide (c.val / 64 = 2)) := by decide +kernel
theorem and31 : ∀ c : Fin 256, bitAnd .i64 ((c.val : Nat) : Int) 31 = ((c.val % 32 : Nat) : Int) := by decide +kernel
theorem and15 : ∀ c : Fin 256, bitAnd .i64 ((c.val : Nat) : Int) 15 = ((c.val % 16 : Nat) : Int) := by decide +kernel
theorem and7 : ∀ c : Fin 256, bitAnd .i64 ((c.val : Nat) : Int) 7 = ((c.val % 8 : Nat) : Int) := by decide +kernel
theorem bx_at {s : ByteArray} {i : Nat} (h : i < s.size) : bx s (i : Int) = some (((s.data.toList.getD i 0).toNat : Nat) : Int) := by
  unfold bx
  rw [if_pos ⟨by omega, by omega⟩]
  unfold byteAt
  rw [Int.toNat_natCast]
  simp [List.getD_eq_getElem?_getD]
theorem size_list (s : ByteArray) : s.data.toList.length = s.size := by rw [Array.length_toList]; rfl
theorem nil_size (s : ByteArray) : (s.toList == (⟨#[]⟩ : ByteArray).toList) = decide (s.size = 0) := size_zero_iff
end Go.GB

/- Plain laws: the document's Utf8 is the library's. -/
set_option linter.unusedVariables false
set_option linter.unusedSimpArgs false
set_option maxRecDepth 100000
namespace Go.Proofs.YtcnnbaneoehilaaDoor
open Go.GB Go.Lib
/-- The byte at a place, 0 behind the end. -/
def bat (s : ByteArray) (i : Nat) : Nat := (s.data.toList.getD i 0).toNat
theorem bat_lt (s : ByteArray) (i : Nat) : bat s i < 256 := UInt8.toNat_lt _
theorem bx_bat {s : ByteArray} {i : Nat} (h : i < s.size) : bx s (i : Int) = some ((bat s i : Nat) : Int) := bx_at h
theorem fin_and {P : Nat → Prop} (h : ∀ c : Fin 256, P c.val) {n : Nat} (hn : n < 256) : P n := h ⟨n, hn⟩
theorem l79_end {s : ByteArray} {i n least r0 : Nat} {r k : Nat} (h : n < k) (hk : k < 100) : loopO (tocsinref01_Utf8_l79 s (i : Int) ((n : Int), (least : Int), (r0 : Int))) ((r : Int), (k : Int)) = some (.inl (r : Int)) := by
  refine loopO_done ?_
  unfold tocsinref01_Utf8_l79
  rw [show decide (((r : Int), (k : Int)).2 ≤ ((n : Int), (least : Int), (r0 : Int)).1) = false from decide_eq_false (by show ¬ ((k : Int) ≤ (n : Int)); omega)]
  rfl
theorem l79_step {s : ByteArray} {i n least r0 : Nat} {r k : Nat} (hs : s.size < 4611686018427387904) (hi : i < s.size) (h : k ≤ n) (hn : n ≤ 3) (hr : r < 16777216) :
    tocsinref01_Utf8_l79 s (i : Int) ((n : Int), (least : Int), (r0 : Int)) ((r : Int), (k : Int)) =
      if i + k < s.size ∧ bat s (i + k) / 64 = 2 then some (.inl (((r * 64 + bat s (i + k) % 64 : Nat) : Int), ((k + 1 : Nat) : Int))) else some (.inr (.inr (.inr (.inr (.inr false))))) := by
  unfold tocsinref01_Utf8_l79
  simp only
  rw [show decide ((k : Int) ≤ (n : Int)) = true from decide_eq_true (by omega)]
  have e1 : IntKind.wrap .i64 ((i : Int) + (k : Int)) = ((i + k : Nat) : Int) := by rw [wrap64 (by omega) (by omega)]; omega
  simp only [cond_true, e1]
  by_cases hlt : i + k < s.size
  · rw [show decide (((i + k : Nat) : Int) ≥ (s.size : Int)) = false from decide_eq_false (by omega)]
    have hb := bat_lt s (i + k)
    have h1 : (bitAnd .u8 ((bat s (i + k) : Nat) : Int) 192 != 128) = !(decide (bat s (i + k) / 64 = 2)) := fin_and (P := fun n => (bitAnd .u8 ((n : Nat) : Int) 192 != 128) = !(decide (n / 64 = 2))) and192 hb
    have h2 : bitAnd .u8 ((bat s (i + k) : Nat) : Int) 63 = ((bat s (i + k) % 64 : Nat) : Int) := fin_and (P := fun n => bitAnd .u8 ((n : Nat) : Int) 63 = ((n % 64 : Nat) : Int)) and63 hb
    simp only [cond_false, bx_bat hlt, Option.bind_some, h1, h2]
    by_cases hc : bat s (i + k) / 64 = 2
    · rw [if_pos ⟨hlt, hc⟩]
      simp only [hc, decide_true, Bool.not_true, cond_false, bx_bat hlt, Option.bind_some, h2]
      have e2 : IntKind.wrap .i64 ((r : Int) * 64) = ((r * 64 : Nat) : Int) := by rw [wrap64 (by omega) (by omega)]; omega
      have e3 : IntKind.wrap .i64 ((bat s (i + k) % 64 : Nat) : Int) = ((bat s (i + k) % 64 : Nat) : Int) := wrap64 (by omega) (by omega)
      have e4 : IntKind.wrap .i64 (((r * 64 : Nat) : Int) + ((bat s (i + k) % 64 : Nat) : Int)) = ((r * 64 + bat s (i + k) % 64 : Nat) : Int) := by rw [wrap64 (by omega) (by omega)]; omega
      have e5 : IntKind.wrap .i64 ((k : Int) + 1) = ((k + 1 : Nat) : Int) := wrap_up (by omega)
      rw [e2, e3, e4, e5]
    · rw [if_neg (fun h => hc h.2)]
      simp only [hc, decide_false, Bool.not_false, cond_true]
  · rw [show decide (((i + k : Nat) : Int) ≥ (s.size : Int)) = true from decide_eq_true (by omega), if_neg (fun h => hlt h.1)]
    simp
/-- What a lead byte says: how many follow, the least, what it bears. -/
def leadN (c : Nat) : Option (Nat × Nat × Nat) := if 194 ≤ c ∧ c < 224 then some (1, 128, c % 32) else if 224 ≤ c ∧ c < 240 then some (2, 2048, c % 16) else if 240 ≤ c ∧ c < 245 then some (3, 65536, c % 8) else none
theorem l79_all {s : ByteArray} {i n least r0 : Nat} (hs : s.size < 4611686018427387904) (hi : i < s.size) (hn : 1 ≤ n ∧ n ≤ 3) (hr : r0 < 32) :
    loopO (tocsinref01_Utf8_l79 s (i : Int) ((n : Int), (least : Int), (r0 : Int))) ((r0 : Int), 1) =
      if (i + 1 < s.size ∧ bat s (i + 1) / 64 = 2) ∧ (2 ≤ n → i + 2 < s.size ∧ bat s (i + 2) / 64 = 2) ∧ (3 ≤ n → i + 3 < s.size ∧ bat s (i + 3) / 64 = 2) then
        some (.inl ((if n = 1 then r0 * 64 + bat s (i + 1) % 64 else if n = 2 then (r0 * 64 + bat s (i + 1) % 64) * 64 + bat s (i + 2) % 64 else ((r0 * 64 + bat s (i + 1) % 64) * 64 + bat s (i + 2) % 64) * 64 + bat s (i + 3) % 64 : Nat) : Int))
      else some (.inr (.inr (.inr (.inr false)))) := by
  have h1 := l79_step (s := s) (i := i) (n := n) (least := least) (r0 := r0) (r := r0) (k := 1) hs hi (by omega) hn.2 (by omega)
  by_cases c1 : i + 1 < s.size ∧ bat s (i + 1) / 64 = 2
  · rw [if_pos c1] at h1
    rw [show (1 : Int) = ((1 : Nat) : Int) from rfl, loopO_step h1]
    have b1 := bat_lt s (i + 1)
    by_cases n1 : n = 1
    · subst n1
      rw [l79_end (by omega) (by omega), if_pos ⟨c1, by omega, by omega⟩, if_pos rfl]
    · have h2 := l79_step (s := s) (i := i) (n := n) (least := least) (r0 := r0) (r := r0 * 64 + bat s (i + 1) % 64) (k := 2) hs hi (by omega) hn.2 (by omega)
      by_cases c2 : i + 2 < s.size ∧ bat s (i + 2) / 64 = 2
      · rw [if_pos c2] at h2
        rw [show ((1 + 1 : Nat) : Int) = ((2 : Nat) : Int) from rfl, loopO_step h2]
        have b2 := bat_lt s (i + 2)
        by_cases n2 : n = 2
        · subst n2
          rw [l79_end (by omega) (by omega), if_pos ⟨c1, fun _ => c2, by omega⟩]
          rfl
        · have h3 := l79_step (s := s) (i := i) (n := n) (least := least) (r0 := r0) (r := (r0 * 64 + bat s (i + 1) % 64) * 64 + bat s (i + 2) % 64) (k := 3) hs hi (by omega) hn.2 (by omega)
          by_cases c3 : i + 3 < s.size ∧ bat s (i + 3) / 64 = 2
          · rw [if_pos c3] at h3
            rw [show ((2 + 1 : Nat) : Int) = ((3 : Nat) : Int) from rfl, loopO_step h3, l79_end (by omega) (by omega), if_pos ⟨c1, fun _ => c2, fun _ => c3⟩, if_neg n1, if_neg n2]
          · rw [if_neg c3] at h3
            rw [show ((2 + 1 : Nat) : Int) = ((3 : Nat) : Int) from rfl, loopO_done h3, if_neg (fun h => c3 (h.2.2 (by omega)))]
      · rw [if_neg c2] at h2
        rw [show ((1 + 1 : Nat) : Int) = ((2 : Nat) : Int) from rfl, loopO_done h2, if_neg (fun h => c2 (h.2.1 (by omega)))]
  · rw [if_neg c1] at h1
    rw [show (1 : Int) = ((1 : Nat) : Int) from rfl, loopO_done h1, if_neg (fun h => c1 h.1)]
def contN (s : ByteArray) (i n least r0 : Nat) : Option Nat :=
  if (i + 1 < s.size ∧ bat s (i + 1) / 64 = 2) ∧ (2 ≤ n → i + 2 < s.size ∧ bat s (i + 2) / 64 = 2) ∧ (3 ≤ n → i + 3 < s.size ∧ bat s (i + 3) / 64 = 2) then
    (let r := if n = 1 then r0 * 64 + bat s (i + 1) % 64 else if n = 2 then (r0 * 64 + bat s (i + 1) % 64) * 64 + bat s (i + 2) % 64 else ((r0 * 64 + bat s (i + 1) % 64) * 64 + bat s (i + 2) % 64) * 64 + bat s (i + 3) % 64
     if r < least ∨ r > 1114111 ∨ (55296 ≤ r ∧ r < 57344) then none else some (i + n + 1))
  else none
/-- One round of the document's loop: the place behind the rune, or none. -/
def stepN (s : ByteArray) (i : Nat) : Option Nat :=
  if bat s i < 128 then some (i + 1) else match leadN (bat s i) with
    | none => none
    | some (n, least, r0) => contN s i n least r0
theorem l17_tail {s : ByteArray} {i n least r0 : Nat} (hs : s.size < 4611686018427387904) (hi : i < s.size) (hn : 1 ≤ n ∧ n ≤ 3) (hr : r0 < 32) (hl : least ≤ 65536) {X : Option ((Int) ⊕ ((Int) ⊕ ((Unit) ⊕ (Bool))))}
    (hX : X = Option.bind (loopO (tocsinref01_Utf8_l79 s (i : Int) ((n : Int), (least : Int), (r0 : Int))) ((r0 : Int), 1)) fun (r67 : (Int) ⊕ ((Int) ⊕ ((Int) ⊕ ((Unit) ⊕ (Bool))))) =>
          match r67 with
          | Sum.inl r75 => bif (((decide (r75 < (least : Int))) || (decide (r75 > 1114111))) || ((decide (r75 ≥ 55296)) && (decide (r75 < 57344)))) then
            (some (Sum.inr (Sum.inr (Sum.inr false))))
            else
            (some (Sum.inl (IntKind.wrap .i64 ((IntKind.wrap .i64 ((i : Int) + (n : Int))) + 1))))
          | Sum.inr v102 => some v102) :
    X = match contN s i n least r0 with
      | some j => some (Sum.inl (j : Int))
      | none => some (Sum.inr (Sum.inr (Sum.inr false))) := by
  subst hX
  rw [l79_all hs hi hn hr]
  unfold contN
  split
  · simp only [Option.bind_some]
    generalize (if n = 1 then r0 * 64 + bat s (i + 1) % 64 else if n = 2 then (r0 * 64 + bat s (i + 1) % 64) * 64 + bat s (i + 2) % 64 else ((r0 * 64 + bat s (i + 1) % 64) * 64 + bat s (i + 2) % 64) * 64 + bat s (i + 3) % 64) = r
    have e1 : IntKind.wrap .i64 (IntKind.wrap .i64 ((i : Int) + (n : Int)) + 1) = ((i + n + 1 : Nat) : Int) := by
      rw [wrap64 (x := (i : Int) + (n : Int)) (by omega) (by omega), wrap64 (by omega) (by omega)]; omega
    rw [e1]
    by_cases hb : r < least ∨ r > 1114111 ∨ (55296 ≤ r ∧ r < 57344)
    · rw [if_pos hb]
      have : (((decide ((r : Int) < (least : Int))) || (decide ((r : Int) > 1114111))) || ((decide ((r : Int) ≥ 55296)) && (decide ((r : Int) < 57344)))) = true := by
        simp only [Bool.or_eq_true, Bool.and_eq_true, decide_eq_true_eq]; omega
      rw [this]; rfl
    · rw [if_neg hb]
      have : (((decide ((r : Int) < (least : Int))) || (decide ((r : Int) > 1114111))) || ((decide ((r : Int) ≥ 55296)) && (decide ((r : Int) < 57344)))) = false := by
        rw [Bool.eq_false_iff]
        simp only [ne_eq, Bool.or_eq_true, Bool.and_eq_true, decide_eq_true_eq]; omega
      rw [this]; rfl
  · rfl
theorem l17_round {s : ByteArray} {i : Nat} (hs : s.size < 4611686018427387904) (hi : i < s.size) :
    tocsinref01_Utf8_l17 s (i : Int) = match stepN s i with | some j => some (.inl (j : Int)) | none => some (.inr (.inr false)) := by
  unfold tocsinref01_Utf8_l17
  have hb := bat_lt s i
  have w1 : IntKind.wrap .i64 ((bat s i : Nat) : Int) = ((bat s i : Nat) : Int) := wrap64 (by omega) (by omega)
  rw [show decide ((i : Int) < (s.size : Int)) = true from decide_eq_true (by omega)]
  simp only [cond_true, bx_bat hi, Option.bind_some, w1]
  unfold stepN
  by_cases h0 : bat s i < 128
  · rw [if_pos h0, show decide (((bat s i : Nat) : Int) < 128) = true from decide_eq_true (by omega), show IntKind.wrap .i64 ((i : Int) + 1) = ((i + 1 : Nat) : Int) from by rw [wrap64 (by omega) (by omega)]; omega]
    rfl
  · rw [if_neg h0, show decide (((bat s i : Nat) : Int) < 128) = false from decide_eq_false (by omega)]
    simp only [cond_false]
    have a31 : bitAnd .i64 ((bat s i : Nat) : Int) 31 = ((bat s i % 32 : Nat) : Int) := fin_and (P := fun n => bitAnd .i64 ((n : Nat) : Int) 31 = ((n % 32 : Nat) : Int)) and31 hb
    have a15 : bitAnd .i64 ((bat s i : Nat) : Int) 15 = ((bat s i % 16 : Nat) : Int) := fin_and (P := fun n => bitAnd .i64 ((n : Nat) : Int) 15 = ((n % 16 : Nat) : Int)) and15 hb
    have a7 : bitAnd .i64 ((bat s i : Nat) : Int) 7 = ((bat s i % 8 : Nat) : Int) := fin_and (P := fun n => bitAnd .i64 ((n : Nat) : Int) 7 = ((n % 8 : Nat) : Int)) Go.GB.and7 hb
    simp only [a31, a15, a7]
    unfold leadN
    by_cases c1 : 194 ≤ bat s i ∧ bat s i < 224
    · have : ((decide (((bat s i : Nat) : Int) ≥ 194)) && (decide (((bat s i : Nat) : Int) < 224))) = true := by simp only [Bool.and_eq_true, decide_eq_true_eq]; omega
      simp only [this, cond_true, Option.bind_some, if_pos c1]
      have hT := l17_tail (s := s) (i := i) (n := 1) (least := 128) (r0 := bat s i % 32) hs hi (by omega) (by omega) (by omega) rfl
      simp only [show ((1 : Nat) : Int) = 1 from rfl, show ((128 : Nat) : Int) = 128 from rfl] at hT
      refine Eq.trans (congrArg (fun X => Option.bind X _) hT) ?_
      cases contN s i 1 128 (bat s i % 32) <;> rfl
    · have f1 : ((decide (((bat s i : Nat) : Int) ≥ 194)) && (decide (((bat s i : Nat) : Int) < 224))) = false := by rw [Bool.eq_false_iff]; simp only [ne_eq, Bool.and_eq_true, decide_eq_true_eq]; omega
      simp only [f1, cond_false, if_neg c1]
      by_cases c2 : 224 ≤ bat s i ∧ bat s i < 240
      · have : ((decide (((bat s i : Nat) : Int) ≥ 224)) && (decide (((bat s i : Nat) : Int) < 240))) = true := by simp only [Bool.and_eq_true, decide_eq_true_eq]; omega
        simp only [this, cond_true, Option.bind_some, if_pos c2]
        have hT := l17_tail (s := s) (i := i) (n := 2) (least := 2048) (r0 := bat s i % 16) hs hi (by omega) (by omega) (by omega) rfl
        simp only [show ((2 : Nat) : Int) = 2 from rfl, show ((2048 : Nat) : Int) = 2048 from rfl] at hT
        refine Eq.trans (congrArg (fun X => Option.bind X _) hT) ?_
        cases contN s i 2 2048 (bat s i % 16) <;> rfl
      · have f2 : ((decide (((bat s i : Nat) : Int) ≥ 224)) && (decide (((bat s i : Nat) : Int) < 240))) = false := by rw [Bool.eq_false_iff]; simp only [ne_eq, Bool.and_eq_true, decide_eq_true_eq]; omega
        simp only [f2, cond_false, if_neg c2]
        by_cases c3 : 240 ≤ bat s i ∧ bat s i < 245
        · have : ((decide (((bat s i : Nat) : Int) ≥ 240)) && (decide (((bat s i : Nat) : Int) < 245))) = true := by simp only [Bool.and_eq_true, decide_eq_true_eq]; omega
          simp only [this, cond_true, Option.bind_some, if_pos c3]
          have hT := l17_tail (s := s) (i := i) (n := 3) (least := 65536) (r0 := bat s i % 8) hs hi (by omega) (by omega) (by omega) rfl
          simp only [show ((3 : Nat) : Int) = 3 from rfl, show ((65536 : Nat) : Int) = 65536 from rfl] at hT
          refine Eq.trans (congrArg (fun X => Option.bind X _) hT) ?_
          cases contN s i 3 65536 (bat s i % 8) <;> rfl
        · have f3 : ((decide (((bat s i : Nat) : Int) ≥ 240)) && (decide (((bat s i : Nat) : Int) < 245))) = false := by rw [Bool.eq_false_iff]; simp only [ne_eq, Bool.and_eq_true, decide_eq_true_eq]; omega
          simp only [f3, cond_false, if_neg c3, Option.bind_some]
theorem getD_drop (l : List UInt8) (i k : Nat) : (l.drop i).getD k 0 = l.getD (i + k) 0 := by simp [List.getD_eq_getElem?_getD, List.getElem?_drop]
theorem dec2 {n c b1 b2 b3 : Nat} (hc : 194 ≤ c ∧ c < 224) : decodeN n c b1 b2 b3 = if 1 < n ∧ b1 / 64 = 2 then (c % 32 * 64 + b1 % 64, 2) else (65533, 1) := by
  unfold decodeN
  rw [if_neg (by omega)]
  by_cases h : 1 < n ∧ b1 / 64 = 2
  · rw [if_pos ⟨by omega, h⟩, if_pos (by omega), if_pos h]
  · rw [if_neg (fun g => h g.2), if_neg (fun g => h g.2.1), if_neg (fun g => h g.2.1), if_neg h]
theorem dec3 {n c b1 b2 b3 : Nat} (hc : 224 ≤ c ∧ c < 240) : decodeN n c b1 b2 b3 = if (1 < n ∧ b1 / 64 = 2) ∧ (2 < n ∧ b2 / 64 = 2) then
    (if (c % 16 * 64 + b1 % 64) * 64 + b2 % 64 < 2048 ∨ (55296 ≤ (c % 16 * 64 + b1 % 64) * 64 + b2 % 64 ∧ (c % 16 * 64 + b1 % 64) * 64 + b2 % 64 < 57344) then (65533, 1) else ((c % 16 * 64 + b1 % 64) * 64 + b2 % 64, 3)) else (65533, 1) := by
  unfold decodeN
  rw [if_neg (by omega), if_neg (by omega)]
  by_cases h : (1 < n ∧ b1 / 64 = 2) ∧ (2 < n ∧ b2 / 64 = 2)
  · rw [if_pos ⟨by omega, h⟩, if_pos h]
    have e : c % 16 * 4096 + b1 % 64 * 64 + b2 % 64 = (c % 16 * 64 + b1 % 64) * 64 + b2 % 64 := by omega
    rw [e]
    by_cases h2 : (c % 16 * 64 + b1 % 64) * 64 + b2 % 64 < 2048 ∨ (55296 ≤ (c % 16 * 64 + b1 % 64) * 64 + b2 % 64 ∧ (c % 16 * 64 + b1 % 64) * 64 + b2 % 64 < 57344)
    · rw [if_pos h2, if_neg (by omega)]
    · rw [if_neg h2, if_pos (by omega)]
  · rw [if_neg (fun g => h g.2), if_neg (fun g => h ⟨g.2.1, g.2.2.1⟩), if_neg h]
theorem dec4 {n c b1 b2 b3 : Nat} (hc : 240 ≤ c ∧ c < 245) : decodeN n c b1 b2 b3 = if (1 < n ∧ b1 / 64 = 2) ∧ (2 < n ∧ b2 / 64 = 2) ∧ (3 < n ∧ b3 / 64 = 2) then
    (if ((c % 8 * 64 + b1 % 64) * 64 + b2 % 64) * 64 + b3 % 64 < 65536 ∨ 1114111 < ((c % 8 * 64 + b1 % 64) * 64 + b2 % 64) * 64 + b3 % 64 then (65533, 1) else (((c % 8 * 64 + b1 % 64) * 64 + b2 % 64) * 64 + b3 % 64, 4)) else (65533, 1) := by
  unfold decodeN
  rw [if_neg (by omega), if_neg (by omega), if_neg (by omega)]
  by_cases h : (1 < n ∧ b1 / 64 = 2) ∧ (2 < n ∧ b2 / 64 = 2) ∧ (3 < n ∧ b3 / 64 = 2)
  · rw [if_pos ⟨by omega, h⟩, if_pos h]
    have e : c % 8 * 262144 + b1 % 64 * 4096 + b2 % 64 * 64 + b3 % 64 = ((c % 8 * 64 + b1 % 64) * 64 + b2 % 64) * 64 + b3 % 64 := by omega
    rw [e]
    by_cases h2 : ((c % 8 * 64 + b1 % 64) * 64 + b2 % 64) * 64 + b3 % 64 < 65536 ∨ 1114111 < ((c % 8 * 64 + b1 % 64) * 64 + b2 % 64) * 64 + b3 % 64
    · rw [if_pos h2, if_neg (by omega)]
    · rw [if_neg h2, if_pos (by omega)]
  · rw [if_neg (fun g => h g.2), if_neg h]
set_option maxHeartbeats 1000000 in
/-- The document's round and the library's are one. -/
theorem stepN_valid {s : ByteArray} {i : Nat} (hi : i < s.size) : validD (s.data.toList.drop i) = match stepN s i with | some j => validD (s.data.toList.drop j) | none => false := by
  have hl : s.data.toList.length = s.size := size_list s
  have hne : s.data.toList.drop i ≠ [] := by intro h; have := congrArg List.length h; simp at this; omega
  have hlen : (s.data.toList.drop i).length = s.size - i := by rw [List.length_drop, hl]
  rw [validD_step _ hne, decodeL_N, hlen]
  simp only [getD_drop, Nat.add_zero]
  have b0 := bat_lt s i
  change (if (decodeN (s.size - i) (bat s i) (bat s (i + 1)) (bat s (i + 2)) (bat s (i + 3))).1 = 65533 ∧ (decodeN (s.size - i) (bat s i) (bat s (i + 1)) (bat s (i + 2)) (bat s (i + 3))).2 = 1 then false else validD ((s.data.toList.drop i).drop (decodeN (s.size - i) (bat s i) (bat s (i + 1)) (bat s (i + 2)) (bat s (i + 3))).2)) = _
  rw [List.drop_drop]
  unfold stepN leadN
  by_cases h0 : bat s i < 128
  · rw [if_pos h0, show decodeN (s.size - i) (bat s i) (bat s (i + 1)) (bat s (i + 2)) (bat s (i + 3)) = (bat s i, 1) from by unfold decodeN; rw [if_pos h0]]
    rw [if_neg (by simp; omega)]
  · rw [if_neg h0]
    by_cases c1 : 194 ≤ bat s i ∧ bat s i < 224
    · rw [if_pos c1, dec2 c1]
      show _ = match contN s i 1 128 (bat s i % 32) with | some j => validD (s.data.toList.drop j) | none => false
      by_cases k1 : i + 1 < s.size ∧ bat s (i + 1) / 64 = 2
      · have e : contN s i 1 128 (bat s i % 32) = some (i + 1 + 1) := by
          unfold contN
          rw [if_pos ⟨k1, by omega, by omega⟩]
          simp only [if_true]
          rw [if_neg (by omega)]
        rw [e, if_pos (show 1 < s.size - i ∧ bat s (i + 1) / 64 = 2 from ⟨by omega, k1.2⟩), if_neg (by simp)]; rfl
      · have e : contN s i 1 128 (bat s i % 32) = none := by
          unfold contN
          rw [if_neg (fun g => k1 g.1)]
        rw [e, if_neg (show ¬ (1 < s.size - i ∧ bat s (i + 1) / 64 = 2) from fun g => k1 ⟨by omega, g.2⟩), if_pos ⟨rfl, rfl⟩]
    · rw [if_neg c1]
      by_cases c2 : 224 ≤ bat s i ∧ bat s i < 240
      · rw [if_pos c2, dec3 c2]
        show _ = match contN s i 2 2048 (bat s i % 16) with | some j => validD (s.data.toList.drop j) | none => false
        by_cases k1 : (i + 1 < s.size ∧ bat s (i + 1) / 64 = 2) ∧ (i + 2 < s.size ∧ bat s (i + 2) / 64 = 2)
        · rw [if_pos (show (1 < s.size - i ∧ bat s (i + 1) / 64 = 2) ∧ (2 < s.size - i ∧ bat s (i + 2) / 64 = 2) from ⟨⟨by omega, k1.1.2⟩, by omega, k1.2.2⟩)]
          by_cases k2 : (bat s i % 16 * 64 + bat s (i + 1) % 64) * 64 + bat s (i + 2) % 64 < 2048 ∨ (55296 ≤ (bat s i % 16 * 64 + bat s (i + 1) % 64) * 64 + bat s (i + 2) % 64 ∧ (bat s i % 16 * 64 + bat s (i + 1) % 64) * 64 + bat s (i + 2) % 64 < 57344)
          · have e : contN s i 2 2048 (bat s i % 16) = none := by
              unfold contN
              rw [if_pos ⟨k1.1, fun _ => k1.2, by omega⟩]
              simp only [show ¬ (2 : Nat) = 1 from by omega, if_false, if_true]
              rw [if_pos (by omega)]
            rw [e, if_pos k2, if_pos ⟨rfl, rfl⟩]
          · have e : contN s i 2 2048 (bat s i % 16) = some (i + 2 + 1) := by
              unfold contN
              rw [if_pos ⟨k1.1, fun _ => k1.2, by omega⟩]
              simp only [show ¬ (2 : Nat) = 1 from by omega, if_false, if_true]
              rw [if_neg (by omega)]
            rw [e, if_neg k2, if_neg (by simp)]; rfl
        · have e : contN s i 2 2048 (bat s i % 16) = none := by
            unfold contN
            rw [if_neg (fun g => k1 ⟨g.1, g.2.1 (by omega)⟩)]
          rw [e, if_neg (show ¬ ((1 < s.size - i ∧ bat s (i + 1) / 64 = 2) ∧ (2 < s.size - i ∧ bat s (i + 2) / 64 = 2)) from fun g => k1 ⟨⟨by omega, g.1.2⟩, by omega, g.2.2⟩), if_pos ⟨rfl, rfl⟩]
      · rw [if_neg c2]
        by_cases c3 : 240 ≤ bat s i ∧ bat s i < 245
        · rw [if_pos c3, dec4 c3]
          show _ = match contN s i 3 65536 (bat s i % 8) with | some j => validD (s.data.toList.drop j) | none => false
          by_cases k1 : (i + 1 < s.size ∧ bat s (i + 1) / 64 = 2) ∧ (i + 2 < s.size ∧ bat s (i + 2) / 64 = 2) ∧ (i + 3 < s.size ∧ bat s (i + 3) / 64 = 2)
          · rw [if_pos (show (1 < s.size - i ∧ bat s (i + 1) / 64 = 2) ∧ (2 < s.size - i ∧ bat s (i + 2) / 64 = 2) ∧ (3 < s.size - i ∧ bat s (i + 3) / 64 = 2) from ⟨⟨by omega, k1.1.2⟩, ⟨by omega, k1.2.1.2⟩, by omega, k1.2.2.2⟩)]
            by_cases k2 : ((bat s i % 8 * 64 + bat s (i + 1) % 64) * 64 + bat s (i + 2) % 64) * 64 + bat s (i + 3) % 64 < 65536 ∨ 1114111 < ((bat s i % 8 * 64 + bat s (i + 1) % 64) * 64 + bat s (i + 2) % 64) * 64 + bat s (i + 3) % 64
            · have e : contN s i 3 65536 (bat s i % 8) = none := by
                unfold contN
                rw [if_pos ⟨k1.1, fun _ => k1.2.1, fun _ => k1.2.2⟩]
                simp only [show ¬ (3 : Nat) = 1 from by omega, show ¬ (3 : Nat) = 2 from by omega, if_false]
                rw [if_pos (by omega)]
              rw [e, if_pos k2, if_pos ⟨rfl, rfl⟩]
            · have e : contN s i 3 65536 (bat s i % 8) = some (i + 3 + 1) := by
                unfold contN
                rw [if_pos ⟨k1.1, fun _ => k1.2.1, fun _ => k1.2.2⟩]
                simp only [show ¬ (3 : Nat) = 1 from by omega, show ¬ (3 : Nat) = 2 from by omega, if_false]
                rw [if_neg (by omega)]
              rw [e, if_neg k2, if_neg (by simp)]; rfl
          · have e : contN s i 3 65536 (bat s i % 8) = none := by
              unfold contN
              rw [if_neg (fun g => k1 ⟨g.1, g.2.1 (by omega), g.2.2 (by omega)⟩)]
            rw [e, if_neg (show ¬ ((1 < s.size - i ∧ bat s (i + 1) / 64 = 2) ∧ (2 < s.size - i ∧ bat s (i + 2) / 64 = 2) ∧ (3 < s.size - i ∧ bat s (i + 3) / 64 = 2)) from fun g => k1 ⟨⟨by omega, g.1.2⟩, ⟨by omega, g.2.1.2⟩, by omega, g.2.2.2⟩), if_pos ⟨rfl, rfl⟩]
        · rw [if_neg c3, decodeN_bad _ _ _ _ _ (by omega)]
          simp
theorem contN_some {s : ByteArray} {i n least r0 j : Nat} (h : contN s i n least r0 = some j) : j = i + n + 1 ∧ (i + 1 < s.size ∧ bat s (i + 1) / 64 = 2) ∧ (2 ≤ n → i + 2 < s.size ∧ bat s (i + 2) / 64 = 2) ∧ (3 ≤ n → i + 3 < s.size ∧ bat s (i + 3) / 64 = 2) := by
  unfold contN at h
  split at h
  · rename_i hc
    refine ⟨?_, hc⟩
    have : ∀ (p : Prop) [Decidable p], (if p then none else some (i + n + 1)) = some j → j = i + n + 1 := fun p _ hp => by
      split at hp <;> cases hp
      rfl
    exact this _ h
  · cases h
theorem stepN_up {s : ByteArray} {i j : Nat} (h : stepN s i = some j) : i < j := by
  unfold stepN at h
  split at h
  · cases h; omega
  · split at h
    · cases h
    · have := (contN_some h).1; omega
theorem stepN_le {s : ByteArray} {i j : Nat} (hi : i < s.size) (h : stepN s i = some j) : j ≤ s.size := by
  unfold stepN at h
  split at h
  · cases h; omega
  · unfold leadN at h
    split at h
    · cases h
    · rename_i n least r0 hl
      obtain ⟨rfl, h1, h2, h3⟩ := contN_some h
      split at hl
      · cases hl; omega
      · split at hl
        · cases hl; have := h2 (by omega); omega
        · split at hl
          · cases hl; have := h3 (by omega); omega
          · cases hl
theorem utf8_loop {s : ByteArray} (hs : s.size < 4611686018427387904) : ∀ d i : Nat, s.size - i = d → i ≤ s.size → loopO (tocsinref01_Utf8_l17 s) (i : Int) = some (if validD (s.data.toList.drop i) then .inl () else .inr false) := by
  intro d
  induction d using Nat.strongRecOn with
  | _ d ih =>
    intro i hd hi
    by_cases hlt : i < s.size
    · have hr := l17_round hs hlt
      have hv := stepN_valid hlt
      cases hn : stepN s i with
      | none =>
        rw [hn] at hr hv
        rw [loopO_done hr, hv]; rfl
      | some j =>
        rw [hn] at hr hv
        have h1 := stepN_up hn
        have h2 := stepN_le hlt hn
        rw [loopO_step hr, hv]
        exact ih (s.size - j) (by omega) j rfl h2
    · have : i = s.size := by omega
      subst this
      have he : tocsinref01_Utf8_l17 s (s.size : Int) = some (.inr (.inl ())) := by
        unfold tocsinref01_Utf8_l17
        rw [show decide ((s.size : Int) < (s.size : Int)) = false from decide_eq_false (by omega)]
        rfl
      rw [loopO_done he]
      rw [show s.data.toList.drop s.size = [] from List.drop_eq_nil_of_le (Nat.le_of_eq (size_list s))]
      rfl
/-- The document's Utf8 is the library's ValidString. -/
theorem refUtf8_eq {s : ByteArray} (hs : s.size < 4611686018427387904) : tocsinref01_Utf8 s = some (validD s.data.toList) := by
  unfold tocsinref01_Utf8
  have := utf8_loop hs s.size 0 (by omega) (by omega)
  rw [show ((0 : Nat) : Int) = 0 from rfl, List.drop_zero] at this
  rw [this]
  cases validD s.data.toList <;> rfl
theorem valid_eq {s : ByteArray} (hs : s.size < 4611686018427387904) : utf8_ValidString s = some (validD s.data.toList) := by
  unfold utf8_ValidString
  rw [if_pos (by omega)]
end Go.Proofs.YtcnnbaneoehilaaDoor

/- Plain laws, base: the order of texts. -/
set_option linter.unusedVariables false
set_option linter.unusedSimpArgs false
namespace Go.GB
open Go.Lib
theorem cb_self : ∀ a : List UInt8, compareBytes a a = 0
  | [] => rfl
  | a :: xs => by unfold compareBytes; rw [if_neg (UInt8.lt_irrefl a), if_neg (UInt8.lt_irrefl a)]; exact cb_self xs
theorem cb_swap : ∀ a b : List UInt8, compareBytes b a = - compareBytes a b
  | [], [] => rfl
  | [], _ :: _ => rfl
  | _ :: _, [] => rfl
  | a :: xs, b :: ys => by
    unfold compareBytes
    by_cases h1 : a < b
    · have h2 : ¬ b < a := fun h => UInt8.lt_irrefl a (UInt8.lt_trans h1 h)
      rw [if_pos h1, if_neg h2, if_pos h1]; rfl
    · by_cases h2 : b < a
      · rw [if_pos h2, if_neg h1, if_pos h2]
      · rw [if_neg h2, if_neg h1, if_neg h1, if_neg h2]; exact cb_swap xs ys
theorem u8_eq {a b : UInt8} (h1 : ¬ a < b) (h2 : ¬ b < a) : a = b := UInt8.le_antisymm (UInt8.not_lt.1 h2) (UInt8.not_lt.1 h1)
theorem cb_zero : ∀ a b : List UInt8, compareBytes a b = 0 → a = b
  | [], [], _ => rfl
  | [], _ :: _, h => by simp [compareBytes] at h
  | _ :: _, [], h => by simp [compareBytes] at h
  | a :: xs, b :: ys, h => by
    unfold compareBytes at h
    by_cases h1 : a < b
    · rw [if_pos h1] at h; cases h
    · by_cases h2 : b < a
      · rw [if_neg h1, if_pos h2] at h; cases h
      · rw [if_neg h1, if_neg h2] at h
        rw [cb_zero xs ys h, u8_eq h1 h2]
theorem cb_range : ∀ a b : List UInt8, compareBytes a b = -1 ∨ compareBytes a b = 0 ∨ compareBytes a b = 1
  | [], [] => by simp [compareBytes]
  | [], _ :: _ => by simp [compareBytes]
  | _ :: _, [] => by simp [compareBytes]
  | a :: xs, b :: ys => by
    unfold compareBytes
    split
    · simp
    · split
      · simp
      · exact cb_range xs ys
theorem cb_less : ∀ a b : List UInt8, Op.bytesLess a b = decide (compareBytes a b = -1)
  | [], [] => by simp [compareBytes, Op.bytesLess]
  | [], _ :: _ => by simp [compareBytes, Op.bytesLess]
  | _ :: _, [] => by simp [compareBytes, Op.bytesLess]
  | a :: xs, b :: ys => by
    unfold compareBytes Op.bytesLess
    by_cases h1 : a < b
    · simp [h1]
    · by_cases h2 : b < a
      · have h3 : (a == b) = false := by
          rw [beq_eq_false_iff_ne]; rintro rfl; exact h1 h2
        simp [h1, h2, h3]
      · have h3 := u8_eq h1 h2
        subst h3
        simp [h1, cb_less xs ys]
theorem cb_trans : ∀ a b c : List UInt8, compareBytes a b = -1 → compareBytes b c = -1 → compareBytes a c = -1
  | [], [], _, h, _ => by simp [compareBytes] at h
  | [], _ :: _, [], _, h => by simp [compareBytes] at h
  | [], _ :: _, _ :: _, _, _ => by simp [compareBytes]
  | _ :: _, [], _, h, _ => by simp [compareBytes] at h
  | _ :: _, _ :: _, [], _, h => by simp [compareBytes] at h
  | a :: xs, b :: ys, c :: zs, h, k => by
    unfold compareBytes at h k ⊢
    by_cases h1 : a < b
    · by_cases h3 : b < c
      · rw [if_pos (UInt8.lt_trans h1 h3)]
      · by_cases h4 : c < b
        · rw [if_neg h3, if_pos h4] at k; cases k
        · rw [← u8_eq h3 h4, if_pos h1]
    · by_cases h2 : b < a
      · rw [if_neg h1, if_pos h2] at h; cases h
      · have e := u8_eq h1 h2
        subst e
        rw [if_neg h1, if_neg h1] at h
        by_cases h3 : a < c
        · rw [if_pos h3]
        · by_cases h4 : c < a
          · rw [if_neg h3, if_pos h4] at k; cases k
          · rw [if_neg h3, if_neg h4] at k
            rw [if_neg h3, if_neg h4]
            exact cb_trans xs ys zs h k
def cmpS (a b : ByteArray) : Int := compareBytes a.data.toList b.data.toList
theorem cmpS_self (a : ByteArray) : cmpS a a = 0 := cb_self _
theorem cmpS_swap (a b : ByteArray) : cmpS b a = - cmpS a b := cb_swap _ _
theorem ba_eq {a b : ByteArray} (h : a.data.toList = b.data.toList) : a = b := by
  obtain ⟨⟨x⟩⟩ := a
  obtain ⟨⟨y⟩⟩ := b
  simpa using h
theorem cmpS_zero {a b : ByteArray} (h : cmpS a b = 0) : a = b := ba_eq (cb_zero _ _ h)
theorem cmpS_range (a b : ByteArray) : cmpS a b = -1 ∨ cmpS a b = 0 ∨ cmpS a b = 1 := cb_range _ _
theorem cmpS_trans {a b c : ByteArray} (h : cmpS a b = -1) (k : cmpS b c = -1) : cmpS a c = -1 := cb_trans _ _ _ h k
theorem toList_eq (a : ByteArray) : a.toList = a.data.toList := ByteArray.toList_eq a
theorem less_eq (a b : ByteArray) : Op.bytesLess a.toList b.toList = decide (cmpS a b = -1) := by rw [toList_eq, toList_eq]; exact cb_less _ _
theorem beq_eq (a b : ByteArray) : (a.toList == b.toList) = decide (cmpS a b = 0) := by
  rw [Bool.eq_iff_iff, toList_inj, decide_eq_true_iff]
  exact ⟨fun h => by rw [h]; exact cmpS_self _, cmpS_zero⟩
end Go.GB

/- Plain laws: names, values, label sets: the program's are the document's. -/
set_option linter.unusedVariables false
set_option linter.unusedSimpArgs false
set_option maxRecDepth 100000
namespace Go.Proofs.YtcnnbaneoehilaaDoor
open Go.GB Go.Lib
theorem ix_bytes {s : ByteArray} {i : Nat} (h : i < s.size) : ix (bytesOf s) (i : Int) = some ((bat s i : Nat) : Int) := by
  rw [ix_nat]
  unfold bytesOf bat
  have : i < s.data.toList.length := by rw [size_list]; exact h
  rw [List.getElem?_map, List.getElem?_eq_getElem this, List.getD_eq_getElem?_getD, List.getElem?_eq_getElem this]
  rfl
noncomputable def namedB (s : ByteArray) (most : Nat) (colon : Bool) : Bool := decide (s.size ≠ 0) && (decide (s.size ≤ most) && (!labels_digit (bat s 0) && (List.range s.size).all fun i => labels_letter (bat s i) || (labels_digit (bat s i) || (colon && ((bat s i : Nat) : Int) == 58))))
theorem named_eq (s : ByteArray) {most : Nat} (hm : most ≤ 2147483648) (colon : Bool) : labels_named s (most : Int) colon = some (namedB s most colon) := by
  unfold labels_named namedB
  rw [nil_size]
  by_cases h0 : s.size = 0
  · simp [h0]
  · by_cases h1 : s.size ≤ most
    · have e1 : decide ((s.size : Int) > (most : Int)) = false := decide_eq_false (by omega)
      have e2 : bx s 0 = some ((bat s 0 : Nat) : Int) := bx_bat (i := 0) (by omega)
      simp only [h0, decide_false, cond_false, e1, e2, Option.bind_some, not_false_eq_true, ne_eq, decide_true, h1, Bool.true_and]
      cases hd : labels_digit ((bat s 0 : Nat) : Int) with
      | true => simp
      | false =>
        have e3 : sb s = some (bytesOf s) := by unfold sb maxLen'; rw [if_pos (by omega)]
        simp only [cond_false, e3, Option.bind_some, Bool.not_false, Bool.true_and]
        rw [up_all (n := s.size) (fun i => labels_letter (bat s i) || (labels_digit (bat s i) || (colon && ((bat s i : Nat) : Int) == 58))) (fun i hi => ?_) ?_]
        · simp only [Option.bind_some]
          cases (List.range s.size).all fun i => labels_letter (bat s i) || (labels_digit (bat s i) || (colon && ((bat s i : Nat) : Int) == 58)) <;> rfl
        · unfold labels_named_l33
          rw [show decide ((s.size : Int) < ((bytesOf s).length : Int)) = false from decide_eq_false (by rw [bytesOf_length]; omega)]
          rfl
        · unfold labels_named_l33
          rw [show decide ((i : Int) < ((bytesOf s).length : Int)) = true from decide_eq_true (by rw [bytesOf_length]; omega)]
          simp only [cond_true, ix_bytes hi, Option.bind_some, wrap_up (show i < 4294967296 by omega)]
          cases labels_letter ((bat s i : Nat) : Int) <;> cases labels_digit ((bat s i : Nat) : Int) <;> cases (colon && ((bat s i : Nat) : Int) == 58) <;> rfl
    · have e1 : decide ((s.size : Int) > (most : Int)) = true := decide_eq_true (by omega)
      simp only [h0, h1, decide_false, decide_true, cond_false, e1, cond_true, Option.bind_some, ne_eq, not_false_eq_true, Bool.false_and, Bool.and_false]
theorem Name_eq (s : ByteArray) : labels_Name s = some (namedB s 64 false) := by
  unfold labels_Name
  rw [show (64 : Int) = ((64 : Nat) : Int) from rfl, named_eq s (by omega) false]
  rfl
theorem let_not_dig (c : Int) : labels_letter c = true → labels_digit c = false := by
  unfold labels_letter labels_digit
  intro h
  rw [Bool.eq_false_iff]
  simp only [Bool.or_eq_true, Bool.and_eq_true, decide_eq_true_eq, beq_iff_eq] at h
  simp only [ne_eq, Bool.and_eq_true, decide_eq_true_eq]
  omega
theorem refName_eq (s : ByteArray) : tocsinref04_Name s = some (namedB s 64 false) := by
  unfold tocsinref04_Name namedB
  rw [nil_size]
  by_cases h0 : s.size = 0
  · simp [h0]
  · by_cases h1 : s.size ≤ 64
    · have e1 : decide ((s.size : Int) > 64) = false := decide_eq_false (by omega)
      simp only [h0, decide_false, e1, Bool.or_self, cond_false, not_false_eq_true, ne_eq, decide_true, h1, Bool.true_and]
      have hq : (!labels_digit ((bat s 0 : Nat) : Int) && (List.range s.size).all fun i => labels_letter (bat s i) || (labels_digit (bat s i) || (false && ((bat s i : Nat) : Int) == 58))) = (List.range s.size).all fun i => labels_letter (bat s i) || (decide (i ≠ 0) && labels_digit (bat s i)) := by
        rw [Bool.eq_iff_iff, Bool.and_eq_true, List.all_eq_true, List.all_eq_true]
        constructor
        · rintro ⟨h2, h3⟩ i hi
          have := h3 i hi
          by_cases hi0 : i = 0
          · subst hi0
            simp only [Bool.not_eq_true'] at h2
            simpa [h2] using this
          · simpa [hi0] using this
        · intro h3
          refine ⟨?_, fun i hi => ?_⟩
          · have := h3 0 (List.mem_range.2 (by omega))
            simp only [ne_eq, not_true_eq_false, decide_false, Bool.false_and, Bool.or_false] at this
            rw [let_not_dig _ this]; rfl
          · have := h3 i hi
            simp only [Bool.or_eq_true, Bool.and_eq_true] at this ⊢
            rcases this with h | h
            · exact .inl h
            · exact .inr (.inl h.2)
      rw [hq, up_all (n := s.size) (fun i => labels_letter (bat s i) || (decide (i ≠ 0) && labels_digit (bat s i))) (fun i hi => ?_) ?_]
      · simp only [Option.bind_some]
        cases (List.range s.size).all fun i => labels_letter (bat s i) || (decide (i ≠ 0) && labels_digit (bat s i)) <;> rfl
      · unfold tocsinref04_Name_l24
        rw [show decide ((s.size : Int) < (s.size : Int)) = false from decide_eq_false (by omega)]
        rfl
      · unfold tocsinref04_Name_l24
        rw [show decide ((i : Int) < (s.size : Int)) = true from decide_eq_true (by omega)]
        have el : ∀ c, tocsinref04_letter c = labels_letter c := fun _ => rfl
        have ed : ∀ c, tocsinref04_digit c = labels_digit c := fun _ => rfl
        simp only [cond_true, bx_bat hi, Option.bind_some, wrap_up (show i < 4294967296 by omega), el, ed]
        by_cases hi0 : i = 0
        · subst hi0
          cases labels_letter ((bat s 0 : Nat) : Int) <;> rfl
        · have e2 : ((i : Int) == 0) = false := by rw [beq_eq_false_iff_ne]; omega
          simp only [e2, hi0, cond_false]
          cases labels_letter ((bat s i : Nat) : Int) <;> cases labels_digit ((bat s i : Nat) : Int) <;> simp [hi0]
    · have e1 : decide ((s.size : Int) > 64) = true := decide_eq_true (by omega)
      simp only [e1, h1, Bool.or_true, cond_true, decide_false, Bool.false_and, Bool.and_false]
noncomputable def valueE (s : ByteArray) : Int := if s.size = 0 then 41 else if s.size > 256 then 4 else if validD s.data.toList then 0 else 12
theorem value_eq (s : ByteArray) : labels_value s = some (valueE s) := by
  unfold labels_value valueE
  rw [nil_size]
  by_cases h0 : s.size = 0
  · simp [h0]
  · by_cases h1 : s.size > 256
    · simp [h0, h1, show decide ((s.size : Int) > 256) = true from decide_eq_true (by omega)]
    · have e1 : decide ((s.size : Int) > 256) = false := decide_eq_false (by omega)
      simp only [h0, decide_false, cond_false, e1, valid_eq (show s.size < 4611686018427387904 by omega), Option.bind_some, if_false, h1]
      cases validD s.data.toList <;> rfl
noncomputable def oneE (x : S50) : Int := if namedB x.f0 64 false then valueE x.f1 else 40
theorem refOne_eq (x : S50) : tocsinref04_one x = some (oneE x) := by
  unfold tocsinref04_one oneE
  rw [refName_eq, nil_size]
  simp only [Option.bind_some]
  cases namedB x.f0 64 false with
  | false => rfl
  | true =>
    simp only [Bool.not_true, cond_false, if_true]
    unfold valueE
    by_cases h0 : x.f1.size = 0
    · simp [h0]
    · by_cases h1 : x.f1.size > 256
      · simp [h0, h1, show decide ((x.f1.size : Int) > 256) = true from decide_eq_true (by omega)]
      · have e1 : decide ((x.f1.size : Int) > 256) = false := decide_eq_false (by omega)
        simp only [h0, decide_false, cond_false, e1, refUtf8_eq (show x.f1.size < 4611686018427387904 by omega), Option.bind_some, if_false, h1]
        cases validD x.f1.data.toList <;> rfl
/-- The first fault of a label set, at a place. -/
noncomputable def faultAt (l : List S50) (i : Nat) : Option (Int × Int) := match l[i]? with
  | none => none
  | some x => if oneE x ≠ 0 then some (oneE x, (i : Int)) else if i = 0 then none else match l[i - 1]? with
    | none => none
    | some y => if cmpS y.f0 x.f0 = -1 then none else some (3, (i : Int))
noncomputable def rightE (l : List S50) : Int × Int := if l.length > 16 then (8, 0) else ((List.range l.length).findSome? (faultAt l)).getD (0, 0)
theorem oneE_ne {x : S50} (h : namedB x.f0 64 false = false) : oneE x = 40 := by unfold oneE; rw [h]; rfl
theorem ix_prev {α : Type} {l : List α} {i : Nat} (h0 : 0 < i) (hi : i < 4294967296) : ix l (IntKind.wrap .i64 ((i : Int) - 1)) = l[i - 1]? := by
  rw [wrap64 (by omega) (by omega), show (i : Int) - 1 = ((i - 1 : Nat) : Int) by omega, ix_nat]
theorem Right_eq (l : List S50) : labels_Right l = some (rightE l) := by
  unfold labels_Right rightE
  by_cases hl : l.length > 16
  · simp [hl, show decide ((l.length : Int) > 16) = true from decide_eq_true (by omega)]
  · rw [show decide ((l.length : Int) > 16) = false from decide_eq_false (by omega), if_neg hl]
    simp only [cond_false]
    rw [up_find (n := l.length) (faultAt l) (fun i hi => ?_) ?_]
    · simp only [Option.bind_some]
      cases (List.range l.length).findSome? (faultAt l) <;> rfl
    · unfold labels_Right_l18
      rw [show decide ((l.length : Int) < (l.length : Int)) = false from decide_eq_false (by omega)]
      rfl
    · unfold labels_Right_l18 faultAt
      have hx : l[i]? = some l[i] := List.getElem?_eq_getElem hi
      rw [show decide ((i : Int) < (l.length : Int)) = true from decide_eq_true (by omega)]
      simp only [cond_true, ix_nat, hx, Option.bind_some, Name_eq, value_eq]
      cases hn : namedB l[i].f0 64 false with
      | false => rw [oneE_ne hn]; rfl
      | true =>
        have ho : oneE l[i] = valueE l[i].f1 := by unfold oneE; rw [hn]; rfl
        rw [ho]
        simp only [Bool.not_true, cond_false]
        by_cases hv : valueE l[i].f1 = 0
        · have e2 : (valueE l[i].f1 != 0) = false := by simp [hv]
          rw [if_neg (by simpa using hv)]
          simp only [e2, cond_false, wrap_up (show i < 4294967296 by omega)]
          by_cases hi0 : i = 0
          · subst hi0
            simp
          · have e3 : decide ((i : Int) > 0) = true := decide_eq_true (by omega)
            have hy : l[i - 1]? = some (l[i - 1]'(by omega)) := List.getElem?_eq_getElem (by omega)
            rw [if_neg hi0]
            simp only [e3, cond_true, ix_prev (show 0 < i by omega) (show i < 4294967296 by omega), hy, Option.bind_some, less_eq, beq_eq]
            have hs := cmpS_swap (l[i - 1]'(by omega)).f0 l[i].f0
            have hr := cmpS_range (l[i - 1]'(by omega)).f0 l[i].f0
            by_cases hc : cmpS (l[i - 1]'(by omega)).f0 l[i].f0 = -1
            · rw [if_pos hc]
              have : (decide (cmpS l[i].f0 (l[i - 1]'(by omega)).f0 = -1) || decide (cmpS l[i].f0 (l[i - 1]'(by omega)).f0 = 0)) = false := by
                rw [Bool.eq_false_iff]; simp only [ne_eq, Bool.or_eq_true, decide_eq_true_eq]; omega
              rw [this]; rfl
            · rw [if_neg hc]
              have : (decide (cmpS l[i].f0 (l[i - 1]'(by omega)).f0 = -1) || decide (cmpS l[i].f0 (l[i - 1]'(by omega)).f0 = 0)) = true := by
                simp only [Bool.or_eq_true, decide_eq_true_eq]; omega
              rw [this]; rfl
        · have e2 : (valueE l[i].f1 != 0) = true := by simpa using hv
          rw [if_pos hv]
          simp only [e2, cond_true]
theorem refRight_eq (l : List S50) : tocsinref04_Right l = some (rightE l) := by
  unfold tocsinref04_Right rightE
  by_cases hl : l.length > 16
  · simp [hl, show decide ((l.length : Int) > 16) = true from decide_eq_true (by omega)]
  · rw [show decide ((l.length : Int) > 16) = false from decide_eq_false (by omega), if_neg hl]
    simp only [cond_false]
    rw [up_find (n := l.length) (faultAt l) (fun i hi => ?_) ?_]
    · simp only [Option.bind_some]
      cases (List.range l.length).findSome? (faultAt l) <;> rfl
    · unfold tocsinref04_Right_l18
      rw [show decide ((l.length : Int) < (l.length : Int)) = false from decide_eq_false (by omega)]
      rfl
    · unfold tocsinref04_Right_l18 faultAt
      have hx : l[i]? = some l[i] := List.getElem?_eq_getElem hi
      rw [show decide ((i : Int) < (l.length : Int)) = true from decide_eq_true (by omega)]
      simp only [cond_true, ix_nat, hx, Option.bind_some, refOne_eq]
      by_cases hv : oneE l[i] = 0
      · have e2 : (oneE l[i] != 0) = false := by simp [hv]
        rw [if_neg (by simpa using hv)]
        simp only [e2, cond_false, wrap_up (show i < 4294967296 by omega)]
        by_cases hi0 : i = 0
        · subst hi0
          simp
        · have e3 : decide ((i : Int) > 0) = true := decide_eq_true (by omega)
          have hy : l[i - 1]? = some (l[i - 1]'(by omega)) := List.getElem?_eq_getElem (by omega)
          rw [if_neg hi0]
          simp only [e3, cond_true, ix_prev (show 0 < i by omega) (show i < 4294967296 by omega), hy, Option.bind_some, less_eq]
          by_cases hc : cmpS (l[i - 1]'(by omega)).f0 l[i].f0 = -1
          · rw [if_pos hc, decide_eq_true hc]; rfl
          · rw [if_neg hc, decide_eq_false hc]; rfl
      · have e2 : (oneE l[i] != 0) = true := by simpa using hv
        rw [if_pos hv]
        simp only [e2, cond_true]
end Go.Proofs.YtcnnbaneoehilaaDoor

/- Plain laws: label sets compared. -/
set_option linter.unusedVariables false
set_option linter.unusedSimpArgs false
set_option maxRecDepth 100000
namespace Go.Proofs.YtcnnbaneoehilaaDoor
open Go.GB Go.Lib
def cmpX (x y : S50) : Int := if cmpS x.f0 y.f0 ≠ 0 then cmpS x.f0 y.f0 else cmpS x.f1 y.f1
def cmpL : List S50 → List S50 → Int
  | [], [] => 0
  | [], _ :: _ => -1
  | _ :: _, [] => 1
  | x :: xs, y :: ys => if cmpX x y ≠ 0 then cmpX x y else cmpL xs ys
theorem strCmp_eq (a b : ByteArray) : strings_Compare a b = cmpS a b := rfl
theorem side_eq (a b : ByteArray) : tocsinref04_side a b = cmpS a b := by
  unfold tocsinref04_side
  rw [less_eq, beq_eq]
  rcases cmpS_range a b with h | h | h <;> rw [h] <;> rfl
theorem cmp1_eq (x y : S50) : labels_Compare_1 x y = cmpX x y := by
  unfold labels_Compare_1 cmpX
  rw [strCmp_eq, strCmp_eq]
  by_cases h : cmpS x.f0 y.f0 = 0
  · rw [if_neg (by simpa using h), show (cmpS x.f0 y.f0 != 0) = false by simp [h]]; rfl
  · rw [if_pos h, show (cmpS x.f0 y.f0 != 0) = true by simpa using h]; rfl
theorem cmpX_range (x y : S50) : cmpX x y = -1 ∨ cmpX x y = 0 ∨ cmpX x y = 1 := by unfold cmpX; split <;> exact cmpS_range _ _
theorem cmpX_self (x : S50) : cmpX x x = 0 := by unfold cmpX; rw [cmpS_self, cmpS_self]; rfl
theorem cmpX_swap (x y : S50) : cmpX y x = - cmpX x y := by
  unfold cmpX
  rw [cmpS_swap x.f0 y.f0, cmpS_swap x.f1 y.f1]
  by_cases h : cmpS x.f0 y.f0 = 0
  · rw [if_neg (by simp [h]), if_neg (by simp [h])]
  · rw [if_pos (by simp [h]), if_pos h]
theorem cmpX_zero {x y : S50} (h : cmpX x y = 0) : x = y := by
  unfold cmpX at h
  obtain ⟨x0, x1⟩ := x
  obtain ⟨y0, y1⟩ := y
  by_cases h1 : cmpS x0 y0 = 0
  · rw [if_neg (by simpa using h1)] at h
    have e1 : x0 = y0 := cmpS_zero h1
    have e2 : x1 = y1 := cmpS_zero h
    rw [e1, e2]
  · rw [if_pos h1] at h; exact absurd h h1
theorem cmpX_trans {x y z : S50} (h : cmpX x y = -1) (k : cmpX y z = -1) : cmpX x z = -1 := by
  unfold cmpX at h k ⊢
  by_cases h1 : cmpS x.f0 y.f0 = 0
  · rw [if_neg (by simpa using h1)] at h
    have e := cmpS_zero h1
    rw [e]
    by_cases h2 : cmpS y.f0 z.f0 = 0
    · rw [if_neg (by simpa using h2)] at k ⊢
      exact cmpS_trans h k
    · rw [if_pos h2] at k ⊢; exact k
  · rw [if_pos h1] at h
    by_cases h2 : cmpS y.f0 z.f0 = 0
    · have e := cmpS_zero h2
      rw [← e, if_pos h1]; exact h
    · rw [if_pos h2] at k
      have := cmpS_trans h k
      rw [if_pos (by omega)]; exact this
theorem cmpL_range : ∀ a b : List S50, cmpL a b = -1 ∨ cmpL a b = 0 ∨ cmpL a b = 1
  | [], [] => by simp [cmpL]
  | [], _ :: _ => by simp [cmpL]
  | _ :: _, [] => by simp [cmpL]
  | x :: xs, y :: ys => by
    unfold cmpL
    split
    · exact cmpX_range _ _
    · exact cmpL_range xs ys
theorem cmpL_self : ∀ a : List S50, cmpL a a = 0
  | [] => rfl
  | x :: xs => by unfold cmpL; rw [if_neg (by simp [cmpX_self])]; exact cmpL_self xs
theorem cmpL_swap : ∀ a b : List S50, cmpL b a = - cmpL a b
  | [], [] => rfl
  | [], _ :: _ => rfl
  | _ :: _, [] => rfl
  | x :: xs, y :: ys => by
    unfold cmpL
    rw [cmpX_swap x y]
    by_cases h : cmpX x y = 0
    · rw [if_neg (by simp [h]), if_neg (by simp [h])]; exact cmpL_swap xs ys
    · rw [if_pos (by simp [h]), if_pos h]
theorem cmpL_zero : ∀ {a b : List S50}, cmpL a b = 0 → a = b
  | [], [], _ => rfl
  | [], _ :: _, h => by simp [cmpL] at h
  | _ :: _, [], h => by simp [cmpL] at h
  | x :: xs, y :: ys, h => by
    unfold cmpL at h
    by_cases h1 : cmpX x y = 0
    · rw [if_neg (by simpa using h1)] at h
      rw [cmpX_zero h1, cmpL_zero h]
    · rw [if_pos h1] at h; exact absurd h h1
theorem cmpL_trans : ∀ {a b c : List S50}, cmpL a b = -1 → cmpL b c = -1 → cmpL a c = -1
  | [], [], _, h, _ => by simp [cmpL] at h
  | [], _ :: _, [], _, h => by simp [cmpL] at h
  | [], _ :: _, _ :: _, _, _ => rfl
  | _ :: _, [], _, h, _ => by simp [cmpL] at h
  | _ :: _, _ :: _, [], _, h => by simp [cmpL] at h
  | x :: xs, y :: ys, z :: zs, h, k => by
    unfold cmpL at h k ⊢
    by_cases h1 : cmpX x y = 0
    · have e := cmpX_zero h1
      rw [if_neg (by simpa using h1)] at h
      rw [e]
      by_cases h2 : cmpX y z = 0
      · rw [if_neg (by simpa using h2)] at k ⊢
        exact cmpL_trans h k
      · rw [if_pos h2] at k ⊢; exact k
    · rw [if_pos h1] at h
      by_cases h2 : cmpX y z = 0
      · rw [← cmpX_zero h2, if_pos h1]; exact h
      · rw [if_pos h2] at k
        have := cmpX_trans h k
        rw [if_pos (by omega)]; exact this
/-- What a loop over both finds. -/
theorem compare_eq (a b : List S50) (ha : a.length ≤ 2147483648) : labels_Compare a b = some (cmpL a b) := by
  unfold labels_Compare slices_CompareFunc
  have key : ∀ d i : Nat, a.length - i = d → i ≤ a.length → i ≤ b.length →
      (Option.bind (loopO (slices_CompareFunc_l17 a b (fun x0 x1 => some (labels_Compare_1 x0 x1))) (i : Int)) fun (r5 : (Unit) ⊕ (Int)) =>
        match r5 with
        | Sum.inl r13 => bif (decide ((a.length : Int) < (b.length : Int))) then (some (-1)) else (some 0)
        | Sum.inr v43 => some v43) = some (cmpL (a.drop i) (b.drop i)) := by
    intro d
    induction d with
    | zero =>
      intro i hd hia hib
      have hi : i = a.length := by omega
      subst hi
      rw [loopO_done (r := .inl ()) (by
        unfold slices_CompareFunc_l17
        rw [show decide ((a.length : Int) < (a.length : Int)) = false from decide_eq_false (by omega)]; rfl)]
      rw [List.drop_length]
      by_cases hlt : a.length < b.length
      · rw [List.drop_eq_getElem_cons hlt]
        simp [hlt, cmpL]
      · rw [List.drop_eq_nil_of_le (by omega)]
        simp [hlt, cmpL]
    | succ d ih =>
      intro i hd hia hib
      have hlt : i < a.length := by omega
      have hx : ix a (i : Int) = some a[i] := by rw [ix_nat, List.getElem?_eq_getElem hlt]
      rw [List.drop_eq_getElem_cons hlt]
      by_cases hb : i < b.length
      · have hy : ix b (i : Int) = some b[i] := by rw [ix_nat, List.getElem?_eq_getElem hb]
        rw [List.drop_eq_getElem_cons hb]
        unfold cmpL
        have hbody : slices_CompareFunc_l17 a b (fun x0 x1 => some (labels_Compare_1 x0 x1)) (i : Int) = some (if cmpX a[i] b[i] ≠ 0 then .inr (.inr (cmpX a[i] b[i])) else .inl ((i + 1 : Nat) : Int)) := by
          unfold slices_CompareFunc_l17
          rw [show decide ((i : Int) < (a.length : Int)) = true from decide_eq_true (by omega), show decide ((i : Int) ≥ (b.length : Int)) = false from decide_eq_false (by omega)]
          simp only [cond_true, hx, hy, Option.bind_some, cond_false, cmp1_eq, wrap_up (show i < 4294967296 by omega)]
          by_cases h : cmpX a[i] b[i] = 0
          · simp [h]
          · rw [if_pos h, show (cmpX a[i] b[i] != 0) = true by simpa using h]; rfl
        by_cases h : cmpX a[i] b[i] = 0
        · rw [if_neg (by simpa using h)] at hbody ⊢
          rw [loopO_step hbody]
          exact ih (i + 1) (by omega) (by omega) (by omega)
        · rw [if_pos h] at hbody ⊢
          rw [loopO_done hbody]; rfl
      · rw [List.drop_eq_nil_of_le (show b.length ≤ i by omega)]
        have hbody : slices_CompareFunc_l17 a b (fun x0 x1 => some (labels_Compare_1 x0 x1)) (i : Int) = some (.inr (.inr 1)) := by
          unfold slices_CompareFunc_l17
          rw [show decide ((i : Int) < (a.length : Int)) = true from decide_eq_true (by omega), show decide ((i : Int) ≥ (b.length : Int)) = true from decide_eq_true (by omega)]
          simp only [cond_true, hx, Option.bind_some]
        rw [loopO_done hbody]; rfl
  have := key a.length 0 (by omega) (by omega) (by omega)
  rw [show ((0 : Nat) : Int) = 0 from rfl] at this
  exact (congrArg (fun X => Option.bind X (fun (y1 : Int) => some y1)) this).trans rfl
theorem refCompare_eq (a b : List S50) (ha : a.length ≤ 2147483648) : tocsinref04_Compare a b = some (cmpL a b) := by
  unfold tocsinref04_Compare
  have key : ∀ d i : Nat, a.length - i = d → i ≤ a.length → i ≤ b.length →
      (Option.bind (loopO (tocsinref04_Compare_l17 a b) (i : Int)) fun (r5 : (Unit) ⊕ (Int)) =>
        match r5 with
        | Sum.inl r13 => bif (decide ((a.length : Int) < (b.length : Int))) then (some (-1)) else (bif (decide ((a.length : Int) > (b.length : Int))) then (some 1) else (some 0))
        | Sum.inr v62 => some v62) = some (cmpL (a.drop i) (b.drop i)) := by
    intro d
    induction d with
    | zero =>
      intro i hd hia hib
      have hi : i = a.length := by omega
      subst hi
      rw [loopO_done (r := .inl ()) (by
        unfold tocsinref04_Compare_l17
        rw [show decide ((a.length : Int) < (a.length : Int)) = false from decide_eq_false (by omega)]; rfl)]
      rw [List.drop_length]
      by_cases hlt : a.length < b.length
      · rw [List.drop_eq_getElem_cons hlt]
        simp [hlt, cmpL]
      · rw [List.drop_eq_nil_of_le (by omega)]
        have h2 : ¬ b.length < a.length := by omega
        simp [hlt, h2, cmpL]
    | succ d ih =>
      intro i hd hia hib
      have hlt : i < a.length := by omega
      have hx : ix a (i : Int) = some a[i] := by rw [ix_nat, List.getElem?_eq_getElem hlt]
      rw [List.drop_eq_getElem_cons hlt]
      by_cases hb : i < b.length
      · have hy : ix b (i : Int) = some b[i] := by rw [ix_nat, List.getElem?_eq_getElem hb]
        rw [List.drop_eq_getElem_cons hb]
        unfold cmpL
        have hbody : tocsinref04_Compare_l17 a b (i : Int) = some (if cmpX a[i] b[i] ≠ 0 then .inr (.inr (cmpX a[i] b[i])) else .inl ((i + 1 : Nat) : Int)) := by
          unfold tocsinref04_Compare_l17
          rw [show decide ((i : Int) < (a.length : Int)) = true from decide_eq_true (by omega), show decide ((i : Int) < (b.length : Int)) = true from decide_eq_true (by omega)]
          simp only [Bool.and_self, cond_true, hx, hy, Option.bind_some, side_eq, wrap_up (show i < 4294967296 by omega)]
          unfold cmpX
          by_cases h : cmpS a[i].f0 b[i].f0 = 0
          · have h' : ¬ (cmpS a[i].f0 b[i].f0 ≠ 0) := by simpa using h
            simp only [if_neg h', show (cmpS a[i].f0 b[i].f0 != 0) = false by simp [h], cond_false]
            by_cases h2 : cmpS a[i].f1 b[i].f1 = 0
            · simp [h2]
            · rw [if_pos h2, show (cmpS a[i].f1 b[i].f1 != 0) = true by simpa using h2]; rfl
          · have h' : cmpS a[i].f0 b[i].f0 ≠ 0 := h
            simp only [if_pos h', show (cmpS a[i].f0 b[i].f0 != 0) = true by simpa using h, cond_true]
        by_cases h : cmpX a[i] b[i] = 0
        · rw [if_neg (by simpa using h)] at hbody ⊢
          rw [loopO_step hbody]
          exact ih (i + 1) (by omega) (by omega) (by omega)
        · rw [if_pos h] at hbody ⊢
          rw [loopO_done hbody]; rfl
      · rw [List.drop_eq_nil_of_le (show b.length ≤ i by omega)]
        have hbody : tocsinref04_Compare_l17 a b (i : Int) = some (.inr (.inl ())) := by
          unfold tocsinref04_Compare_l17
          rw [show decide ((i : Int) < (a.length : Int)) = true from decide_eq_true (by omega), show decide ((i : Int) < (b.length : Int)) = false from decide_eq_false (by omega)]
          rfl
        rw [loopO_done hbody]
        have h1 : ¬ a.length < b.length := by omega
        have h2 : b.length < a.length := by omega
        simp [h1, h2, cmpL]
  have := key a.length 0 (by omega) (by omega) (by omega)
  rw [show ((0 : Nat) : Int) = 0 from rfl] at this
  exact this
theorem refSame_eq (a b : List S50) (ha : a.length ≤ 2147483648) : tocsinref04_Same a b = some (decide (cmpL a b = 0)) := by
  unfold tocsinref04_Same
  rw [refCompare_eq a b ha]
  rfl
end Go.Proofs.YtcnnbaneoehilaaDoor

/- Plain laws: rising lists, each once. -/
set_option linter.unusedVariables false
set_option linter.unusedSimpArgs false
set_option maxRecDepth 100000
namespace Go.Proofs.YtcnnbaneoehilaaDoor
open Go.GB Go.Lib
abbrev LL := List S50
def Rise (l : List LL) : Prop := l.Pairwise fun x y => cmpL x y = -1
theorem rise_uniq : ∀ {a b : List LL}, Rise a → Rise b → (∀ x, x ∈ a ↔ x ∈ b) → a = b
  | [], [], _, _, _ => rfl
  | [], y :: b, _, _, h => by have := (h y).2 (by simp); simp at this
  | x :: a, [], _, _, h => by have := (h x).1 (by simp); simp at this
  | x :: a, y :: b, ha, hb, h => by
    have ha' := List.pairwise_cons.1 ha
    have hb' := List.pairwise_cons.1 hb
    have hxy : x = y := by
      rcases List.mem_cons.1 ((h x).1 (by simp)) with e | hx
      · exact e
      · rcases List.mem_cons.1 ((h y).2 (by simp)) with e | hy
        · exact e.symm
        · have h1 := hb'.1 x hx
          have h2 := ha'.1 y hy
          rw [cmpL_swap, h2] at h1; cases h1
    subst hxy
    congr 1
    refine rise_uniq ha'.2 hb'.2 fun z => ⟨fun hz => ?_, fun hz => ?_⟩
    · rcases List.mem_cons.1 ((h z).1 (List.mem_cons_of_mem _ hz)) with e | h1
      · subst e; have := ha'.1 z hz; rw [cmpL_self] at this; cases this
      · exact h1
    · rcases List.mem_cons.1 ((h z).2 (List.mem_cons_of_mem _ hz)) with e | h1
      · subst e; have := hb'.1 z hz; rw [cmpL_self] at this; cases this
      · exact h1
open Classical in
/-- each once, of those that stand side by side -/
noncomputable def ddS (acc : List LL) (x : LL) : List LL := if acc.getLast? = some x then acc else acc ++ [x]
noncomputable def dd (l : List LL) : List LL := l.foldl ddS []
theorem dd_snoc (l : List LL) (x : LL) : dd (l ++ [x]) = ddS (dd l) x := by simp [dd, List.foldl_append]
theorem snoc_ind {P : List LL → Prop} (h0 : P []) (h1 : ∀ l x, P l → P (l ++ [x])) (l : List LL) : P l := by
  have : ∀ m : List LL, P m.reverse := by
    intro m
    induction m with
    | nil => exact h0
    | cons x m ih => rw [List.reverse_cons]; exact h1 _ _ ih
  have := this l.reverse
  rwa [List.reverse_reverse] at this
theorem dd_last (l : List LL) : (dd l).getLast? = l.getLast? := by
  refine snoc_ind (P := fun l => (dd l).getLast? = l.getLast?) rfl (fun l x ih => ?_) l
  rw [dd_snoc]
  unfold ddS
  split
  · rename_i h; rw [h]; simp
  · simp
theorem dd_mem (l : List LL) : ∀ x, x ∈ dd l ↔ x ∈ l := by
  refine snoc_ind (P := fun l => ∀ x, x ∈ dd l ↔ x ∈ l) (fun x => by simp [dd]) (fun l y ih x => ?_) l
  rw [dd_snoc]
  unfold ddS
  split
  · rename_i h
    rw [ih, List.mem_append, List.mem_singleton]
    refine ⟨.inl, fun h1 => h1.elim id fun e => ?_⟩
    subst e
    exact (ih x).1 (List.mem_of_getLast? h)
  · rw [List.mem_append, List.mem_append, ih]
theorem dd_rise (l : List LL) : l.Pairwise (fun x y => ¬ cmpL y x < 0) → Rise (dd l) := by
  refine snoc_ind (P := fun l => l.Pairwise (fun x y => ¬ cmpL y x < 0) → Rise (dd l)) (fun _ => List.Pairwise.nil) (fun l y ih h => ?_) l
  rw [List.pairwise_append] at h
  obtain ⟨h1, _, h2⟩ := h
  have hr := ih h1
  rw [dd_snoc]
  unfold ddS
  split
  · exact hr
  · rename_i hl
    unfold Rise
    rw [List.pairwise_append]
    refine ⟨hr, List.pairwise_singleton _ _, fun a ha b hb => ?_⟩
    rw [List.mem_singleton] at hb
    subst hb
    have q1 := h2 a ((dd_mem l a).1 ha) b (by simp)
    rcases cmpL_range a b with e | e | e
    · exact e
    · exfalso
      have hab := cmpL_zero e
      subst hab
      cases hg : (dd l).getLast? with
      | none => rw [List.getLast?_eq_none_iff] at hg; rw [hg] at ha; simp at ha
      | some z =>
        have hz := List.mem_of_getLast? hg
        have q2 := h2 z ((dd_mem l z).1 hz) a (by simp)
        have hne : z ≠ a := fun e' => hl (by rw [hg, e'])
        obtain ⟨pre, hp⟩ : ∃ pre, dd l = pre ++ [z] := by
          rw [List.getLast?_eq_some_iff] at hg; exact hg
        rw [hp] at ha hr
        rcases List.mem_append.1 ha with ha | ha
        · have hr' := (List.pairwise_append.1 hr).2.2 a ha z (by simp)
          exact q2 (by rw [hr']; decide)
        · simp at ha; exact hne ha.symm
    · exfalso
      rw [cmpL_swap] at q1
      omega
/-- put in, once -/
def insK (out : List LL) (s : LL) : Nat := (out.takeWhile fun x => decide (cmpL x s < 0)).length
theorem takeW {p : LL → Bool} : ∀ (l : List LL), l.take (l.takeWhile p).length = l.takeWhile p
  | [] => rfl
  | x :: l => by
    rw [List.takeWhile_cons]
    split
    · rw [List.length_cons, List.take_succ_cons, takeW l]
    · rfl
theorem takeW_mem {p : LL → Bool} : ∀ (l : List LL) (x : LL), x ∈ l.takeWhile p → p x = true
  | [], x, h => by simp at h
  | y :: l, x, h => by
    rw [List.takeWhile_cons] at h
    split at h
    · rename_i hp
      rcases List.mem_cons.1 h with e | h
      · rw [e]; exact hp
      · exact takeW_mem l x h
    · simp at h
theorem insK_le (out : List LL) (s : LL) : insK out s ≤ out.length := (List.takeWhile_sublist _).length_le
theorem insK_at {out : List LL} {s : LL} (h : insK out s < out.length) : ¬ cmpL out[insK out s] s < 0 := by
  induction out with
  | nil => simp at h
  | cons x l ih =>
    unfold insK at h ⊢
    by_cases hp : cmpL x s < 0
    · simp only [List.takeWhile_cons, hp, decide_true, if_true, List.length_cons] at h ⊢
      exact ih (by unfold insK; omega)
    · simp only [List.takeWhile_cons, hp, decide_false, Bool.false_eq_true, if_false, List.length_nil, List.getElem_cons_zero]; first | exact hp | exact not_false
theorem insK_head {out : List LL} {s : LL} : ∀ x ∈ out.take (insK out s), cmpL x s = -1 := fun x hx => by
  unfold insK at hx
  rw [takeW] at hx
  have := of_decide_eq_true (takeW_mem _ _ hx)
  rcases cmpL_range x s with e | e | e <;> omega
theorem insK_tail {out : List LL} {s : LL} (hr : Rise out) : ∀ x ∈ out.drop (insK out s), ¬ cmpL x s < 0 := fun x hx => by
  by_cases h : insK out s < out.length
  · rw [List.drop_eq_getElem_cons h] at hx
    have h0 := insK_at h
    rcases List.mem_cons.1 hx with e | hx
    · rw [e]; exact h0
    · have h1 : Rise (out.drop (insK out s)) := List.Pairwise.sublist (List.drop_sublist _ _) hr
      rw [List.drop_eq_getElem_cons h] at h1
      have h2 := (List.pairwise_cons.1 h1).1 x hx
      intro h3
      have h4 : cmpL x s = -1 := by rcases cmpL_range x s with e | e | e <;> omega
      exact h0 (by rw [cmpL_trans h2 h4]; decide)
  · rw [List.drop_eq_nil_of_le (by omega)] at hx; simp at hx
open Classical in
noncomputable def insL (out : List LL) (s : LL) : List LL := if out[insK out s]? = some s then out else out.take (insK out s) ++ (s :: out.drop (insK out s))
theorem insL_mem (out : List LL) (s x : LL) : x ∈ insL out s ↔ x ∈ out ∨ x = s := by
  unfold insL
  split
  · rename_i h
    exact ⟨.inl, fun h1 => h1.elim id fun e => by rw [e]; exact List.mem_of_getElem? h⟩
  · rw [List.mem_append, List.mem_cons]
    conv => rhs; rw [← List.take_append_drop (insK out s) out, List.mem_append]
    constructor
    · rintro (h | h | h) <;> simp [h]
    · rintro ((h | h) | h) <;> simp [h]
theorem insL_rise {out : List LL} {s : LL} (hr : Rise out) : Rise (insL out s) := by
  unfold insL
  split
  · exact hr
  · rename_i hne
    have h1 := insK_head (out := out) (s := s)
    have h2 := insK_tail (s := s) hr
    have hr' := hr
    unfold Rise at hr'
    rw [← List.take_append_drop (insK out s) out, List.pairwise_append] at hr'
    unfold Rise
    rw [List.pairwise_append, List.pairwise_cons]
    refine ⟨hr'.1, ⟨fun b hb => ?_, hr'.2.1⟩, fun a ha b hb => ?_⟩
    · rw [cmpL_swap]
      rcases cmpL_range b s with e | e | e
      · exact absurd (by rw [e]; decide) (h2 b hb)
      · exfalso
        have hbs := cmpL_zero e
        subst hbs
        by_cases h : insK out b < out.length
        · rw [List.drop_eq_getElem_cons h] at hb hr'
          rcases List.mem_cons.1 hb with e2 | hb
          · exact hne (by rw [List.getElem?_eq_getElem h, ← e2])
          · have q := (List.pairwise_cons.1 hr'.2.1).1 b hb
            exact insK_at h (by rw [q]; decide)
        · rw [List.drop_eq_nil_of_le (by omega)] at hb; simp at hb
      · rw [e]
    · rcases List.mem_cons.1 hb with e | hb
      · rw [e]; exact h1 a ha
      · exact hr'.2.2 a ha b hb
theorem insL_len (out : List LL) (s : LL) : (insL out s).length ≤ out.length + 1 := by
  unfold insL
  split
  · omega
  · have := insK_le out s
    simp; omega
noncomputable def insAll (l : List LL) : List LL := l.foldl insL []
theorem insAll_snoc (l : List LL) (x : LL) : insAll (l ++ [x]) = insL (insAll l) x := by simp [insAll, List.foldl_append]
theorem insAll_rise (l : List LL) : Rise (insAll l) := by
  refine snoc_ind (P := fun l => Rise (insAll l)) List.Pairwise.nil (fun l x ih => ?_) l
  rw [insAll_snoc]; exact insL_rise ih
theorem insAll_mem (l : List LL) : ∀ x, x ∈ insAll l ↔ x ∈ l := by
  refine snoc_ind (P := fun l => ∀ x, x ∈ insAll l ↔ x ∈ l) (fun x => by simp [insAll]) (fun l y ih x => ?_) l
  rw [insAll_snoc, insL_mem, ih, List.mem_append, List.mem_singleton]
theorem insAll_len (l : List LL) : (insAll l).length ≤ l.length := by
  refine snoc_ind (P := fun l => (insAll l).length ≤ l.length) (Nat.le_refl _) (fun l x ih => ?_) l
  rw [insAll_snoc]
  have := insL_len (insAll l) x
  simp; omega
theorem dd_ins {l z : List LL} (hp : z.Perm l) (hs : z.Pairwise (fun x y => ¬ cmpL y x < 0)) : dd z = insAll l :=
  rise_uniq (dd_rise z hs) (insAll_rise l) fun x => by rw [dd_mem, insAll_mem]; exact hp.mem_iff
end Go.Proofs.YtcnnbaneoehilaaDoor

/- Plain laws, base: words of bits; numbers in few bytes. -/
set_option linter.unusedVariables false
set_option linter.unusedSimpArgs false
namespace Go.GB
theorem app_eq {α : Type} {xs ys : List α} (h : xs.length + ys.length ≤ 2147483648) : app xs ys = some (xs ++ ys) := by unfold app maxLen'; rw [if_pos (by simpa using h)]
end Go.GB

/- Plain laws: slices.CompactFunc at label sets: each once. -/
set_option linter.unusedVariables false
set_option linter.unusedSimpArgs false
set_option maxRecDepth 100000
namespace Go.Proofs.YtcnnbaneoehilaaDoor
open Go.GB Go.Lib
def eqB (x y : LL) : Bool := decide (cmpL x y = 0)
theorem eqB_iff {x y : LL} : eqB x y = true ↔ x = y := by
  unfold eqB
  rw [decide_eq_true_eq]
  exact ⟨cmpL_zero, fun h => by rw [h]; exact cmpL_self y⟩
section
variable {z : List LL} {f : LL → LL → Option Bool}
theorem take_last {i : Nat} (h0 : 0 < i) (hi : i ≤ z.length) : (z.take i).getLast? = z[i - 1]? := by
  rw [List.getLast?_eq_getElem?, List.length_take, show min i z.length = i from by omega, List.getElem?_take, if_pos (by omega)]
theorem dd_take {m : Nat} (hm : m < z.length) : dd (z.take (m + 1)) = ddS (dd (z.take m)) z[m] := by
  rw [List.take_succ_eq_append_getElem hm, dd_snoc]
theorem dd_take_last {m : Nat} (h0 : 0 < m) (hm : m ≤ z.length) : (dd (z.take m)).getLast? = z[m - 1]? := by rw [dd_last, take_last h0 hm]
structure CInv (z : List LL) (m : Nat) (buf : List LL) (k : Nat) : Prop where
  len : buf.length = z.length
  kl : k = (dd (z.take m)).length
  head : buf.take k = dd (z.take m)
  tail : ∀ j, m - 1 ≤ j → buf[j]? = z[j]?
  lt : k + 1 ≤ m
theorem compact_loop {i : Nat} {l47 : List LL} (hf : ∀ x ∈ z, ∀ y ∈ z, f x y = some (eqB x y)) (hz : z.length < 2147483648) (hi : 0 < i) (hl : l47.length = z.length - i) (hin : i < z.length) :
    ∀ (d k2 : Nat) (buf : List LL) (k : Nat), z.length - i - k2 = d → 1 ≤ k2 → i + k2 ≤ z.length → CInv z (i + k2) buf k →
      ∃ (buf' : List LL) (k' : Nat), loopO (slices_CompactFunc_f31_l76 f (i : Int) l47) (buf, (k : Int), (k2 : Int)) = some (buf', (k' : Int)) ∧ CInv z z.length buf' k' := by
  intro d
  induction d with
  | zero =>
    intro k2 buf k hd h1 h2 hI
    have : i + k2 = z.length := by omega
    rw [this] at hI
    refine ⟨buf, k, loopO_done ?_, hI⟩
    unfold slices_CompactFunc_f31_l76
    rw [show decide ((k2 : Int) < (l47.length : Int)) = false from decide_eq_false (by omega)]; rfl
  | succ d ih =>
    intro k2 buf k hd h1 h2 hI
    have hlt : i + k2 < z.length := by omega
    have g1 : ixv buf (i : Int) l47.length (k2 : Int) = some z[i + k2] := by
      unfold ixv
      rw [if_pos ⟨by omega, by omega⟩, show (i : Int) + (k2 : Int) = ((i + k2 : Nat) : Int) from by omega, ix_nat, hI.tail _ (by omega), List.getElem?_eq_getElem hlt]
    have e1 : IntKind.wrap .i64 ((k2 : Int) - 1) = ((k2 - 1 : Nat) : Int) := by rw [wrap64 (by omega) (by omega)]; omega
    have g2 : ixv buf (i : Int) l47.length ((k2 - 1 : Nat) : Int) = some z[i + k2 - 1] := by
      unfold ixv
      rw [if_pos ⟨by omega, by omega⟩, show (i : Int) + ((k2 - 1 : Nat) : Int) = ((i + k2 - 1 : Nat) : Int) from by omega, ix_nat, hI.tail _ (by omega), List.getElem?_eq_getElem (by omega)]
    have hlast := dd_take_last (z := z) (m := i + k2) (by omega) (by omega)
    rw [List.getElem?_eq_getElem (show i + k2 - 1 < z.length by omega)] at hlast
    have hnext := dd_take (z := z) hlt
    have hq := hf z[i + k2] (List.getElem_mem _) z[i + k2 - 1] (List.getElem_mem _)
    have hkl : k < buf.length := by rw [hI.len]; have := hI.lt; omega
    cases hb : eqB z[i + k2] z[i + k2 - 1] with
    | true =>
      have heq := eqB_iff.1 hb
      rw [hb] at hq
      rw [loopO_step (s' := (buf, (k : Int), ((k2 + 1 : Nat) : Int))) (by
        unfold slices_CompactFunc_f31_l76
        simp only [show decide ((k2 : Int) < (l47.length : Int)) = true from decide_eq_true (by omega), cond_true, g1, e1, g2, Option.bind_some, hq, Bool.not_true, cond_false, wrap_up (show k2 < 4294967296 by omega)])]
      have hs : dd (z.take (i + (k2 + 1))) = dd (z.take (i + k2)) := by
        rw [show i + (k2 + 1) = i + k2 + 1 from by omega, hnext]
        unfold ddS
        rw [if_pos (by rw [hlast, heq])]
      exact ih (k2 + 1) buf k (by omega) (by omega) (by omega) ⟨hI.len, by rw [hs]; exact hI.kl, by rw [hs]; exact hI.head, fun j hj => hI.tail j (by omega), by have := hI.lt; omega⟩
    | false =>
      have hne : z[i + k2] ≠ z[i + k2 - 1] := fun e => by rw [eqB_iff.2 e] at hb; cases hb
      rw [hb] at hq
      have g3 : ix buf (k : Int) = some buf[k] := by rw [ix_nat, List.getElem?_eq_getElem hkl]
      have e3 : lset buf (k : Int) z[i + k2] = buf.set k z[i + k2] := by unfold lset; rw [Int.toNat_natCast]
      rw [loopO_step (s' := (buf.set k z[i + k2], ((k + 1 : Nat) : Int), ((k2 + 1 : Nat) : Int))) (by
        unfold slices_CompactFunc_f31_l76
        simp only [show decide ((k2 : Int) < (l47.length : Int)) = true from decide_eq_true (by omega), cond_true, g1, e1, g2, Option.bind_some, hq, Bool.not_false, g3, e3, wrap_up (show k2 < 4294967296 by omega), wrap_up (show k < 4294967296 by have := hI.lt; omega)])]
      have hs : dd (z.take (i + (k2 + 1))) = dd (z.take (i + k2)) ++ [z[i + k2]] := by
        rw [show i + (k2 + 1) = i + k2 + 1 from by omega, hnext]
        unfold ddS
        rw [if_neg (by rw [hlast]; intro e; exact hne (Option.some.inj e).symm)]
      refine ih (k2 + 1) _ (k + 1) (by omega) (by omega) (by omega) ⟨by rw [List.length_set]; exact hI.len, by rw [hs, List.length_append, ← hI.kl]; rfl, ?_, fun j hj => ?_, by have := hI.lt; omega⟩
      · rw [hs, ← hI.head, List.take_succ_eq_append_getElem (by rw [List.length_set]; exact hkl), List.getElem_set_self, List.take_set_of_le (Nat.le_refl _)]
      · rw [List.getElem?_set_ne (by have := hI.lt; omega)]
        exact hI.tail j (by omega)
theorem first_loop (hf : ∀ x ∈ z, ∀ y ∈ z, f x y = some (eqB x y)) (hz : z.length < 2147483648) :
    ∀ (d i : Nat), z.length - i = d → 0 < i → i ≤ z.length → dd (z.take i) = z.take i →
      (loopO (slices_CompactFunc_f31_l18 z f) (i : Int) = some (.inl ()) ∧ dd z = z) ∨ loopO (slices_CompactFunc_f31_l18 z f) (i : Int) = some (.inr (dd z)) := by
  intro d
  induction d with
  | zero =>
    intro i hd h0 hi hp
    obtain rfl : i = z.length := by omega
    rw [List.take_length] at hp
    refine .inl ⟨loopO_done ?_, hp⟩
    unfold slices_CompactFunc_f31_l18
    rw [show decide ((z.length : Int) < (z.length : Int)) = false from decide_eq_false (by omega)]; rfl
  | succ d ih =>
    intro i hd h0 hi hp
    have hlt : i < z.length := by omega
    have g1 : ix z (i : Int) = some z[i] := by rw [ix_nat, List.getElem?_eq_getElem hlt]
    have e1 : IntKind.wrap .i64 ((i : Int) - 1) = ((i - 1 : Nat) : Int) := by rw [wrap64 (by omega) (by omega)]; omega
    have g2 : ix z ((i - 1 : Nat) : Int) = some z[i - 1] := by rw [ix_nat, List.getElem?_eq_getElem (by omega)]
    have hq := hf z[i] (List.getElem_mem _) z[i - 1] (List.getElem_mem _)
    have hlast := dd_take_last (z := z) (m := i) h0 (by omega)
    rw [List.getElem?_eq_getElem (show i - 1 < z.length by omega)] at hlast
    have hnext := dd_take (z := z) hlt
    cases hb : eqB z[i] z[i - 1] with
    | true =>
      have heq := eqB_iff.1 hb
      rw [hb] at hq
      right
      have hl1 : lx z (i : Int) (z.length : Int) = some (z.drop i) := by
        unfold lx
        rw [if_pos ⟨by omega, by omega, by omega⟩, Int.toNat_natCast, Int.toNat_natCast, List.take_length]
      have hs : dd (z.take (i + 1)) = z.take i := by
        rw [hnext]
        unfold ddS
        rw [if_pos (by rw [hlast, heq]), hp]
      obtain ⟨buf, k, c1, c2⟩ := compact_loop (z := z) (f := f) (i := i) (l47 := z.drop i) hf hz h0 (by rw [List.length_drop]) hlt (z.length - i - 1) 1 z i rfl (Nat.le_refl _) (by omega)
        ⟨rfl, by rw [hs, List.length_take]; omega, by rw [hs], fun j _ => rfl, Nat.le_refl _⟩
      rw [show ((1 : Nat) : Int) = 1 from rfl] at c1
      have ck := c2.kl
      have ch := c2.head
      rw [List.take_length] at ck ch
      have hk : k ≤ buf.length := by rw [c2.len]; have := c2.lt; omega
      have h2 : lx buf (k : Int) (buf.length : Int) = some (buf.drop k) := by
        unfold lx
        rw [if_pos ⟨by omega, by omega, by omega⟩, Int.toNat_natCast, Int.toNat_natCast, List.take_length]
      obtain ⟨zs, h3, h4⟩ : ∃ zs, clrv buf (k : Int) (buf.drop k).length ([] : LL) = some zs ∧ zs.take k = buf.take k ∧ zs.length = buf.length := by
        refine ⟨buf.take k ++ List.replicate (buf.drop k).length [] ++ buf.drop (k + (buf.drop k).length), ?_, ?_, ?_⟩
        · unfold clrv
          rw [if_pos ⟨by omega, by rw [List.length_drop]; omega⟩, Int.toNat_natCast]
        · rw [List.append_assoc, List.take_append_of_le_length (by rw [List.length_take]; omega), List.take_take, Nat.min_self]
        · simp only [List.length_append, List.length_take, List.length_replicate, List.length_drop]; omega
      have h5 : lx zs 0 (k : Int) = some (dd z) := by
        unfold lx
        rw [if_pos ⟨by omega, by omega, by rw [h4.2]; omega⟩, Int.toNat_natCast, h4.1, ch]; rfl
      refine loopO_done ?_
      unfold slices_CompactFunc_f31_l18
      simp only [show decide ((i : Int) < (z.length : Int)) = true from decide_eq_true (by omega), cond_true, g1, e1, g2, Option.bind_some, hq, hl1, c1, h2, h3, h5]
    | false =>
      have hne : z[i] ≠ z[i - 1] := fun e => by rw [eqB_iff.2 e] at hb; cases hb
      rw [hb] at hq
      have hs : dd (z.take (i + 1)) = z.take (i + 1) := by
        rw [hnext]
        unfold ddS
        rw [if_neg (by rw [hlast]; intro e; exact hne (Option.some.inj e).symm), hp, List.take_succ_eq_append_getElem hlt]
      have st : slices_CompactFunc_f31_l18 z f (i : Int) = some (.inl ((i + 1 : Nat) : Int)) := by
        unfold slices_CompactFunc_f31_l18
        simp only [show decide ((i : Int) < (z.length : Int)) = true from decide_eq_true (by omega), cond_true, g1, e1, g2, Option.bind_some, hq, cond_false, wrap_up (show i < 4294967296 by omega)]
      rw [loopO_step st]
      exact ih (i + 1) (by omega) (by omega) (by omega) hs
theorem compact_eq (hf : ∀ x ∈ z, ∀ y ∈ z, f x y = some (eqB x y)) (hz : z.length < 2147483648) : slices_CompactFunc_f31 z f = some (dd z) := by
  have h1 : z.length ≤ 1 → dd z = z := by
    intro h
    match z, h with
    | [], _ => rfl
    | [x], _ => rfl
  unfold slices_CompactFunc_f31
  by_cases h : z.length < 2
  · rw [show decide ((z.length : Int) < 2) = true from decide_eq_true (by omega), h1 (by omega)]; rfl
  · rw [show decide ((z.length : Int) < 2) = false from decide_eq_false (by omega)]
    simp only [cond_false]
    have hp : dd (z.take 1) = z.take 1 := by
      cases z with
      | nil => simp at h
      | cons x r => rfl
    rcases first_loop hf hz (z.length - 1) 1 rfl (by omega) (by omega) hp with ⟨h2, h3⟩ | h2
    · rw [show ((1 : Nat) : Int) = 1 from rfl] at h2
      rw [h2, h3]; rfl
    · rw [show ((1 : Nat) : Int) = 1 from rfl] at h2
      rw [h2]; rfl
end
end Go.Proofs.YtcnnbaneoehilaaDoor

/- Plain laws, base: loops that are one another's image. -/
set_option linter.unusedVariables false
set_option linter.unusedSimpArgs false
namespace Go.GB
end Go.GB

/- Plain laws: marks: the program's are the document's. -/
set_option linter.unusedVariables false
set_option linter.unusedSimpArgs false
set_option maxRecDepth 100000
namespace Go.Proofs.YtcnnbaneoehilaaDoor
open Go.GB Go.Lib
abbrev Sets := List (List S50)
def Wl (x : List S50) : Prop := x.length ≤ 2147483648
def Ws (l : Sets) : Prop := l.length ≤ 2147483648 ∧ ∀ x ∈ l, Wl x
def Wm (m : S23) : Prop := Ws m.f3 ∧ Ws m.f4
noncomputable def riseAt (l : Sets) (i : Nat) : Bool := match l[i]? with
  | none => false
  | some x => decide ((rightE x).1 = 0) && (decide (i = 0) || match l[i - 1]? with | none => false | some y => decide (cmpL y x < 0))
noncomputable def risingB (l : Sets) : Bool := (List.range l.length).all (riseAt l)
theorem rising_eq {l : Sets} (hl : Ws l) : nflog_rising l = some (risingB l) := by
  obtain ⟨h1, h2⟩ := hl
  unfold nflog_rising risingB
  rw [up_all (n := l.length) (riseAt l) (fun i hi => ?_) ?_]
  · simp only [Option.bind_some]
    cases (List.range l.length).all (riseAt l) <;> rfl
  · unfold nflog_rising_l17
    rw [show decide ((l.length : Int) < (l.length : Int)) = false from decide_eq_false (by omega)]
    rfl
  · unfold nflog_rising_l17 riseAt
    have hx : l[i]? = some l[i] := List.getElem?_eq_getElem hi
    rw [show decide ((i : Int) < (l.length : Int)) = true from decide_eq_true (by omega)]
    simp only [cond_true, ix_nat, hx, Option.bind_some, Right_eq]
    by_cases hr : (rightE l[i]).1 = 0
    · rw [show ((rightE l[i]).1 != 0) = false by simp [hr], decide_eq_true hr]
      simp only [cond_false, Bool.true_and]
      by_cases hi0 : i = 0
      · subst hi0
        simp
        rfl
      · have hy : l[i - 1]? = some (l[i - 1]'(by omega)) := List.getElem?_eq_getElem (by omega)
        rw [show decide ((i : Int) > 0) = true from decide_eq_true (by omega), ix_prev (by omega) (by omega), hy]
        simp only [cond_true, Option.bind_some, compare_eq _ _ (h2 _ (List.getElem_mem (show i - 1 < l.length by omega))), hi0, decide_false, Bool.false_or, wrap_up (show i < 4294967296 by omega)]
        by_cases hc : cmpL (l[i - 1]'(by omega)) l[i] < 0
        · rw [decide_eq_true hc, decide_eq_false (show ¬ cmpL (l[i - 1]'(by omega)) l[i] ≥ 0 by omega)]; rfl
        · rw [decide_eq_false hc, decide_eq_true (show cmpL (l[i - 1]'(by omega)) l[i] ≥ 0 by omega)]; rfl
    · rw [show ((rightE l[i]).1 != 0) = true by simpa using hr, decide_eq_false hr]
      rfl
theorem refRising_eq {l : Sets} (hl : Ws l) : tocsinref26_rising l = some (risingB l) := by
  obtain ⟨h1, h2⟩ := hl
  unfold tocsinref26_rising risingB
  rw [up_all (n := l.length) (riseAt l) (fun i hi => ?_) ?_]
  · simp only [Option.bind_some]
    cases (List.range l.length).all (riseAt l) <;> rfl
  · unfold tocsinref26_rising_l17
    rw [show decide ((l.length : Int) < (l.length : Int)) = false from decide_eq_false (by omega)]
    rfl
  · unfold tocsinref26_rising_l17 riseAt
    have hx : l[i]? = some l[i] := List.getElem?_eq_getElem hi
    rw [show decide ((i : Int) < (l.length : Int)) = true from decide_eq_true (by omega)]
    simp only [cond_true, ix_nat, hx, Option.bind_some, refRight_eq]
    by_cases hr : (rightE l[i]).1 = 0
    · rw [show ((rightE l[i]).1 != 0) = false by simp [hr], decide_eq_true hr]
      simp only [cond_false, Bool.true_and]
      by_cases hi0 : i = 0
      · subst hi0
        simp
        rfl
      · have hy : l[i - 1]? = some (l[i - 1]'(by omega)) := List.getElem?_eq_getElem (by omega)
        rw [show decide ((i : Int) > 0) = true from decide_eq_true (by omega), ix_prev (by omega) (by omega), hy]
        simp only [cond_true, Option.bind_some, refCompare_eq _ _ (h2 _ (List.getElem_mem (show i - 1 < l.length by omega))), hi0, decide_false, Bool.false_or, wrap_up (show i < 4294967296 by omega)]
        by_cases hc : cmpL (l[i - 1]'(by omega)) l[i] < 0
        · rw [decide_eq_true hc, decide_eq_false (show ¬ cmpL (l[i - 1]'(by omega)) l[i] ≥ 0 by omega)]; rfl
        · rw [decide_eq_false hc, decide_eq_true (show cmpL (l[i - 1]'(by omega)) l[i] ≥ 0 by omega)]; rfl
    · rw [show ((rightE l[i]).1 != 0) = true by simpa using hr, decide_eq_false hr]
      rfl
def textB (s : ByteArray) (most : Nat) : Bool := decide (1 ≤ s.size) && (decide (s.size ≤ most) && validD s.data.toList)
theorem text_eq (s : ByteArray) {most : Nat} (hm : most < 4611686018427387904) : nflog_text s (most : Int) = some (textB s most) := by
  unfold nflog_text textB
  by_cases h1 : 1 ≤ s.size
  · by_cases h2 : s.size ≤ most
    · rw [show decide ((s.size : Int) ≥ 1) = true from decide_eq_true (by omega), show decide ((s.size : Int) ≤ (most : Int)) = true from decide_eq_true (by omega), valid_eq (by omega), decide_eq_true h1, decide_eq_true h2]
      rfl
    · rw [show decide ((s.size : Int) ≥ 1) = true from decide_eq_true (by omega), show decide ((s.size : Int) ≤ (most : Int)) = false from decide_eq_false (by omega), decide_eq_true h1, decide_eq_false h2]
      rfl
  · rw [show decide ((s.size : Int) ≥ 1) = false from decide_eq_false (by omega), decide_eq_false h1]
    rfl
theorem refText_eq (s : ByteArray) {most : Nat} (hm : most < 4611686018427387904) : (bif (s.toList == (⟨#[]⟩ : ByteArray).toList) then (some true) else (bif (decide ((s.size : Int) > (most : Int))) then (some true) else (Option.bind (tocsinref01_Utf8 s) fun (y9 : Bool) => some (!y9)))) = some (!textB s most) := by
  unfold textB
  rw [nil_size]
  by_cases h1 : s.size = 0
  · simp [h1]
  · by_cases h2 : s.size ≤ most
    · rw [show decide ((s.size : Int) > (most : Int)) = false from decide_eq_false (by omega), refUtf8_eq (by omega), decide_eq_false h1, decide_eq_true h2, decide_eq_true (show 1 ≤ s.size by omega)]
      rfl
    · rw [show decide ((s.size : Int) > (most : Int)) = true from decide_eq_true (by omega), decide_eq_false h1, decide_eq_false h2, Bool.false_and, Bool.and_false]
      rfl
noncomputable def markE (m : S23) : Int := if textB m.f0 64 = false then 204 else if textB m.f1 65536 = false then 40 else if m.f2 < 0 ∨ m.f2 > 1125899906842624 then 1 else if m.f3.length > 500 ∨ m.f4.length > 500 then 8 else if risingB m.f3 && risingB m.f4 then 0 else 41
theorem MRight_eq {m : S23} (hm : Wm m) : nflog_Right m = some (markE m) := by
  unfold nflog_Right markE
  rw [show (64 : Int) = ((64 : Nat) : Int) from rfl, text_eq m.f0 (by omega)]
  simp only [Option.bind_some]
  cases textB m.f0 64 with
  | false => rfl
  | true =>
    simp only [Bool.not_true, cond_false, Bool.true_eq_false, if_false]
    rw [show (65536 : Int) = ((65536 : Nat) : Int) from rfl, text_eq m.f1 (by omega)]
    simp only [Option.bind_some]
    cases textB m.f1 65536 with
    | false => rfl
    | true =>
      simp only [Bool.not_true, cond_false, Bool.true_eq_false, if_false]
      by_cases h3 : m.f2 < 0 ∨ m.f2 > 1125899906842624
      · rw [if_pos h3, show (decide (m.f2 < 0) || decide (m.f2 > 1125899906842624)) = true by simpa using h3]; rfl
      · rw [if_neg h3, show (decide (m.f2 < 0) || decide (m.f2 > 1125899906842624)) = false by rw [Bool.eq_false_iff]; simpa using h3]
        simp only [cond_false]
        by_cases h4 : m.f3.length > 500 ∨ m.f4.length > 500
        · rw [if_pos h4, show (decide ((m.f3.length : Int) > 500) || decide ((m.f4.length : Int) > 500)) = true by simp only [Bool.or_eq_true, decide_eq_true_eq]; omega]; rfl
        · rw [if_neg h4, show (decide ((m.f3.length : Int) > 500) || decide ((m.f4.length : Int) > 500)) = false by rw [Bool.eq_false_iff]; simp only [ne_eq, Bool.or_eq_true, decide_eq_true_eq]; omega]
          simp only [cond_false]
          rw [rising_eq hm.1]
          simp only [Option.bind_some]
          cases risingB m.f3 with
          | false => rfl
          | true =>
            simp only [Bool.not_true, cond_false]
            rw [rising_eq hm.2]
            cases risingB m.f4 <;> rfl
theorem refMRight_eq {m : S23} (hm : Wm m) : tocsinref26_Right m = some (markE m) := by
  unfold tocsinref26_Right markE
  have t1 := refText_eq m.f0 (most := 64) (by omega)
  have t2 := refText_eq m.f1 (most := 65536) (by omega)
  rw [show ((64 : Nat) : Int) = 64 from rfl] at t1
  rw [show ((65536 : Nat) : Int) = 65536 from rfl] at t2
  rw [t1, t2]
  simp only [Option.bind_some]
  cases textB m.f0 64 with
  | false => rfl
  | true =>
    simp only [Bool.not_true, cond_false, Bool.true_eq_false, if_false]
    cases textB m.f1 65536 with
    | false => rfl
    | true =>
      simp only [Bool.not_true, cond_false, Bool.true_eq_false, if_false]
      unfold tocsinref26_time
      by_cases h3 : m.f2 < 0 ∨ m.f2 > 1125899906842624
      · rw [if_pos h3, show (!(decide (m.f2 ≥ 0) && decide (m.f2 ≤ 1125899906842624))) = true by rw [Bool.not_eq_true', Bool.eq_false_iff]; simp only [ne_eq, Bool.and_eq_true, decide_eq_true_eq]; omega]; rfl
      · rw [if_neg h3, show (!(decide (m.f2 ≥ 0) && decide (m.f2 ≤ 1125899906842624))) = false by rw [Bool.not_eq_false']; simp only [Bool.and_eq_true, decide_eq_true_eq]; omega]
        simp only [cond_false]
        by_cases h4 : m.f3.length > 500 ∨ m.f4.length > 500
        · rw [if_pos h4, show (decide ((m.f3.length : Int) > 500) || decide ((m.f4.length : Int) > 500)) = true by simp only [Bool.or_eq_true, decide_eq_true_eq]; omega]; rfl
        · rw [if_neg h4, show (decide ((m.f3.length : Int) > 500) || decide ((m.f4.length : Int) > 500)) = false by rw [Bool.eq_false_iff]; simp only [ne_eq, Bool.or_eq_true, decide_eq_true_eq]; omega]
          simp only [cond_false]
          rw [refRising_eq hm.1]
          simp only [Option.bind_some]
          cases risingB m.f3 with
          | false => rfl
          | true =>
            simp only [Bool.not_true, cond_false]
            rw [refRising_eq hm.2]
            cases risingB m.f4 <;> rfl
/-! ### Copies, likeness -/
theorem lent_eq {l : Sets} (hl : Ws l) : tocsinlaw26_lent l = some l := by
  obtain ⟨h1, h2⟩ := hl
  unfold tocsinlaw26_lent
  have h : loopO (tocsinlaw26_lent_l28 l) ([], 0) = some l := by
    have := up_inv (body := tocsinlaw26_lent_l28 l) (fun i => (l.take i, (i : Int))) (n := l.length) (r := l) (fun i hi => ?_) ?_ 0 (Nat.zero_le _)
    · simpa using this
    · unfold tocsinlaw26_lent_l28
      have e1 : ix l ((i : Nat) : Int) = some l[i] := by rw [ix_nat, List.getElem?_eq_getElem hi]
      have e2 : app ([] : List S50) l[i] = some l[i] := by
        have := h2 _ (List.getElem_mem hi)
        unfold Wl at this
        rw [app_eq (by simpa using this)]; rfl
      have e3 : app (l.take i) [l[i]] = some (l.take (i + 1)) := by
        rw [app_eq (by simp; omega), List.take_append_getElem hi]
      have e4 : decide (((i : Nat) : Int) < (l.length : Int)) = true := decide_eq_true (by omega)
      simp only [e4, cond_true, e1, Option.bind_some, e2, e3, wrap_up (show i < 4294967296 by omega)]
    · unfold tocsinlaw26_lent_l28
      have e4 : decide ((l.length : Int) < (l.length : Int)) = false := decide_eq_false (by omega)
      simp only [e4, cond_false, List.take_length]
  rw [h]; rfl
theorem mark_eq {m : S23} (hm : Wm m) : tocsinlaw26_mark m = some m := by
  unfold tocsinlaw26_mark
  rw [lent_eq hm.1, lent_eq hm.2]; rfl
theorem refSets_self {l : Sets} (hl : Ws l) : tocsinref26_SameSets l l = some true := by
  obtain ⟨h1, h2⟩ := hl
  unfold tocsinref26_SameSets
  rw [up_all (n := l.length) (fun _ => true) (fun i hi => ?_) ?_]
  · simp
  · unfold tocsinref26_SameSets_l18
    rw [show decide ((l.length : Int) < (l.length : Int)) = false from decide_eq_false (by omega)]; rfl
  · unfold tocsinref26_SameSets_l18
    have e1 : ix l ((i : Nat) : Int) = some l[i] := by rw [ix_nat, List.getElem?_eq_getElem hi]
    have e4 : decide (((i : Nat) : Int) < (l.length : Int)) = true := decide_eq_true (by omega)
    simp only [e4, cond_true, e1, Option.bind_some, refSame_eq _ _ (h2 _ (List.getElem_mem hi)), cmpL_self, wrap_up (show i < 4294967296 by omega)]
    rfl
theorem refMark_self {m : S23} (hm : Wm m) : tocsinref26_Same m m = some true := by
  unfold tocsinref26_Same
  rw [refSets_self hm.1, refSets_self hm.2]
  simp
end Go.Proofs.YtcnnbaneoehilaaDoor

set_option linter.unusedVariables false
set_option linter.unusedSimpArgs false
set_option maxRecDepth 100000
namespace Go.Proofs.YtcnnbaneoehilaaDoor
open Go.GB
noncomputable def slices_IndexFunc_l17_c (a0 : List (List S50)) (a1 : (List S50) → Option Bool) : Int → Option ((Int) ⊕ ((Unit) ⊕ (Int))) := fun s7 =>
  bif (decide (s7 < (a0.length : Int))) then
  (Option.bind (ix a0 s7) fun (x20 : List S50) =>
    Option.bind (a1 x20) fun (y32 : Bool) =>
    bif y32 then
    (some (Sum.inr (Sum.inr s7)))
    else
    (some (Sum.inl (IntKind.wrap .i64 (s7 + 1)))))
  else
  (some (Sum.inr (Sum.inl ())))
theorem slices_IndexFunc_l17_ev (a0 : List (List S50)) {a1 a1' : (List S50) → Option Bool} (ha1 : ∀ x0, OLe (a1 x0) (a1' x0)) (s7 : Int) : OLe (slices_IndexFunc_l17_c a0 a1 s7) (slices_IndexFunc_l17 a0 a1' s7) := by
  unfold slices_IndexFunc_l17_c slices_IndexFunc_l17
  exact (OLe.cond (OLe.bind (OLe.refl _) (fun _ => (OLe.bind (ha1 _) (fun _ => (OLe.cond (OLe.refl _) (OLe.refl _)))))) (OLe.refl _))
noncomputable def slices_IndexFunc_c (a0 : List (List S50)) (a1 : (List S50) → Option Bool) : Option Int :=
  Option.bind (loopF 1000000 (slices_IndexFunc_l17_c a0 a1) 0) fun (r5 : (Unit) ⊕ (Int)) =>
  match r5 with
  | Sum.inl r13 => some (-1)
  | Sum.inr v34 => some v34
theorem slices_IndexFunc_ev (a0 : List (List S50)) {a1 a1' : (List S50) → Option Bool} (ha1 : ∀ x0, OLe (a1 x0) (a1' x0)) : OLe (slices_IndexFunc_c a0 a1) (slices_IndexFunc a0 a1') := by
  unfold slices_IndexFunc_c slices_IndexFunc
  exact (OLe.bind (OLe.loop (fun _ => slices_IndexFunc_l17_ev _ ha1 _)) (fun j => by cases j with | inl a => exact (OLe.refl _) | inr b => exact (OLe.refl _)))
noncomputable def slices_ContainsFunc_c (a0 : List (List S50)) (a1 : (List S50) → Option Bool) : Option Bool :=
  Option.bind (slices_IndexFunc_c a0 a1) fun (y1 : Int) =>
  some (decide (y1 ≥ 0))
theorem slices_ContainsFunc_ev (a0 : List (List S50)) {a1 a1' : (List S50) → Option Bool} (ha1 : ∀ x0, OLe (a1 x0) (a1' x0)) : OLe (slices_ContainsFunc_c a0 a1) (slices_ContainsFunc a0 a1') := by
  unfold slices_ContainsFunc_c slices_ContainsFunc
  exact (OLe.bind (slices_IndexFunc_ev _ ha1) (fun _ => (OLe.refl _)))
noncomputable def labels_named_l33_c (a2 : Bool) (l11 : List Int) : Int → Option ((Int) ⊕ ((Unit) ⊕ (Bool))) := fun s23 =>
  bif (decide (s23 < (l11.length : Int))) then
  (Option.bind (ix l11 s23) fun (x36 : Int) =>
    bif (((!(labels_letter x36)) && (!(labels_digit x36))) && (!(a2 && (x36 == 58)))) then
    (some (Sum.inr (Sum.inr false)))
    else
    (some (Sum.inl (IntKind.wrap .i64 (s23 + 1)))))
  else
  (some (Sum.inr (Sum.inl ())))
theorem labels_named_l33_ev (a2 : Bool) (l11 : List Int) (s23 : Int) : OLe (labels_named_l33_c a2 l11 s23) (labels_named_l33 a2 l11 s23) := by
  unfold labels_named_l33_c labels_named_l33
  exact (OLe.cond (OLe.bind (OLe.refl _) (fun _ => (OLe.cond (OLe.refl _) (OLe.refl _)))) (OLe.refl _))
noncomputable def labels_named_c (a0 : ByteArray) (a1 : Int) (a2 : Bool) : Option Bool :=
  Option.bind (bif (a0.toList == (⟨#[]⟩ : ByteArray).toList) then
    (some true)
    else
    (bif (decide ((a0.size : Int) > a1)) then
      (some true)
      else
      (Option.bind (bx a0 0) fun (c8 : Int) =>
        some (labels_digit c8)))) fun (j1 : Bool) =>
  bif j1 then
  (some false)
  else
  (Option.bind (sb a0) fun (l11 : List Int) =>
    Option.bind (loopF 1000000 (labels_named_l33_c a2 l11) 0) fun (r21 : (Unit) ⊕ (Bool)) =>
    match r21 with
    | Sum.inl r29 => some true
    | Sum.inr v54 => some v54)
theorem labels_named_ev (a0 : ByteArray) (a1 : Int) (a2 : Bool) : OLe (labels_named_c a0 a1 a2) (labels_named a0 a1 a2) := by
  unfold labels_named_c labels_named
  exact (OLe.bind (OLe.cond (OLe.refl _) (OLe.cond (OLe.refl _) (OLe.bind (OLe.refl _) (fun _ => (OLe.refl _))))) (fun _ => (OLe.cond (OLe.refl _) (OLe.bind (OLe.refl _) (fun _ => (OLe.bind (OLe.loop (fun _ => labels_named_l33_ev _ _ _)) (fun j => by cases j with | inl a => exact (OLe.refl _) | inr b => exact (OLe.refl _))))))))
noncomputable def labels_Name_c (a0 : ByteArray) : Option Bool :=
  Option.bind (labels_named_c a0 64 false) fun (y1 : Bool) =>
  some y1
theorem labels_Name_ev (a0 : ByteArray) : OLe (labels_Name_c a0) (labels_Name a0) := by
  unfold labels_Name_c labels_Name
  exact (OLe.bind (labels_named_ev _ _ _) (fun _ => (OLe.refl _)))
noncomputable def utf8_ValidString_c (a0 : ByteArray) : Option Bool := utf8_ValidString a0
theorem utf8_ValidString_ev (a0 : ByteArray) : OLe (utf8_ValidString_c a0) (utf8_ValidString a0) := OLe.refl _
noncomputable def labels_value_c (a0 : ByteArray) : Option Int :=
  bif (a0.toList == (⟨#[]⟩ : ByteArray).toList) then
  (some 41)
  else
  (bif (decide ((a0.size : Int) > 256)) then
    (some 4)
    else
    (Option.bind (utf8_ValidString_c a0) fun (y3 : Bool) =>
      bif (!y3) then
      (some 12)
      else
      (some 0)))
theorem labels_value_ev (a0 : ByteArray) : OLe (labels_value_c a0) (labels_value a0) := by
  unfold labels_value_c labels_value
  exact (OLe.cond (OLe.refl _) (OLe.cond (OLe.refl _) (OLe.bind (utf8_ValidString_ev _) (fun _ => (OLe.cond (OLe.refl _) (OLe.refl _))))))
noncomputable def labels_Right_l18_c (a0 : List S50) : Int → Option ((Int) ⊕ ((Unit) ⊕ (Int × Int))) := fun s8 =>
  bif (decide (s8 < (a0.length : Int))) then
  (Option.bind (ix a0 s8) fun (x21 : S50) =>
    Option.bind (labels_Name_c x21.f0) fun (y30 : Bool) =>
    bif (!y30) then
    (some (Sum.inr (Sum.inr (40, s8))))
    else
    (Option.bind (labels_value_c x21.f1) fun (y33 : Int) =>
      bif (y33 != 0) then
      (some (Sum.inr (Sum.inr (y33, s8))))
      else
      (Option.bind (bif (decide (s8 > 0)) then
          (Option.bind (ix a0 (IntKind.wrap .i64 (s8 - 1))) fun (x42 : S50) =>
            some ((Op.bytesLess x21.f0.toList x42.f0.toList) || (x21.f0.toList == x42.f0.toList)))
          else
          (some false)) fun (j36 : Bool) =>
        bif j36 then
        (some (Sum.inr (Sum.inr (3, s8))))
        else
        (some (Sum.inl (IntKind.wrap .i64 (s8 + 1)))))))
  else
  (some (Sum.inr (Sum.inl ())))
theorem labels_Right_l18_ev (a0 : List S50) (s8 : Int) : OLe (labels_Right_l18_c a0 s8) (labels_Right_l18 a0 s8) := by
  unfold labels_Right_l18_c labels_Right_l18
  exact (OLe.cond (OLe.bind (OLe.refl _) (fun _ => (OLe.bind (labels_Name_ev _) (fun _ => (OLe.cond (OLe.refl _) (OLe.bind (labels_value_ev _) (fun _ => (OLe.cond (OLe.refl _) (OLe.bind (OLe.cond (OLe.bind (OLe.refl _) (fun _ => (OLe.refl _))) (OLe.refl _)) (fun _ => (OLe.cond (OLe.refl _) (OLe.refl _)))))))))))) (OLe.refl _))
noncomputable def labels_Right_c (a0 : List S50) : Option (Int × Int) :=
  bif (decide ((a0.length : Int) > 16)) then
  (some (8, 0))
  else
  (Option.bind (loopF 1000000 (labels_Right_l18_c a0) 0) fun (r6 : (Unit) ⊕ (Int × Int)) =>
    match r6 with
    | Sum.inl r14 => some (0, 0)
    | Sum.inr v51 => some v51)
theorem labels_Right_ev (a0 : List S50) : OLe (labels_Right_c a0) (labels_Right a0) := by
  unfold labels_Right_c labels_Right
  exact (OLe.cond (OLe.refl _) (OLe.bind (OLe.loop (fun _ => labels_Right_l18_ev _ _)) (fun j => by cases j with | inl a => exact (OLe.refl _) | inr b => exact (OLe.refl _))))
noncomputable def nflog_right_1_c (a0 : List S50) : Option Bool :=
  Option.bind (labels_Right_c a0) fun (y1 : Int × Int) =>
  some (y1.1 != 0)
theorem nflog_right_1_ev (a0 : List S50) : OLe (nflog_right_1_c a0) (nflog_right_1 a0) := by
  unfold nflog_right_1_c nflog_right_1
  exact (OLe.bind (labels_Right_ev _) (fun _ => (OLe.refl _)))
noncomputable def nflog_right_c (a0 : List (List S50)) : Option Bool :=
  Option.bind (slices_ContainsFunc_c a0 nflog_right_1_c) fun (y1 : Bool) =>
  some (!y1)
theorem nflog_right_ev (a0 : List (List S50)) : OLe (nflog_right_c a0) (nflog_right a0) := by
  unfold nflog_right_c nflog_right
  exact (OLe.bind (slices_ContainsFunc_ev _ (fun _ => nflog_right_1_ev _)) (fun _ => (OLe.refl _)))
noncomputable def nflog_text_c (a0 : ByteArray) (a1 : Int) : Option Bool :=
  Option.bind (bif (decide ((a0.size : Int) ≥ 1)) then
    (bif (decide ((a0.size : Int) ≤ a1)) then
      (Option.bind (utf8_ValidString_c a0) fun (y8 : Bool) =>
        some y8)
      else
      (some false))
    else
    (some false)) fun (j1 : Bool) =>
  some j1
theorem nflog_text_ev (a0 : ByteArray) (a1 : Int) : OLe (nflog_text_c a0 a1) (nflog_text a0 a1) := by
  unfold nflog_text_c nflog_text
  exact (OLe.bind (OLe.cond (OLe.cond (OLe.bind (utf8_ValidString_ev _) (fun _ => (OLe.refl _))) (OLe.refl _)) (OLe.refl _)) (fun _ => (OLe.refl _)))
noncomputable def slices_CompareFunc_l17_c (a0 : List S50) (a1 : List S50) (a2 : S50 → S50 → Option Int) : Int → Option ((Int) ⊕ ((Unit) ⊕ (Int))) := fun s7 =>
  bif (decide (s7 < (a0.length : Int))) then
  (Option.bind (ix a0 s7) fun (x20 : S50) =>
    bif (decide (s7 ≥ (a1.length : Int))) then
    (some (Sum.inr (Sum.inr 1)))
    else
    (Option.bind (ix a1 s7) fun (x30 : S50) =>
      Option.bind (a2 x20 x30) fun (y40 : Int) =>
      bif (y40 != 0) then
      (some (Sum.inr (Sum.inr y40)))
      else
      (some (Sum.inl (IntKind.wrap .i64 (s7 + 1))))))
  else
  (some (Sum.inr (Sum.inl ())))
theorem slices_CompareFunc_l17_ev (a0 : List S50) (a1 : List S50) {a2 a2' : S50 → S50 → Option Int} (ha2 : ∀ x0 x1, OLe (a2 x0 x1) (a2' x0 x1)) (s7 : Int) : OLe (slices_CompareFunc_l17_c a0 a1 a2 s7) (slices_CompareFunc_l17 a0 a1 a2' s7) := by
  unfold slices_CompareFunc_l17_c slices_CompareFunc_l17
  exact (OLe.cond (OLe.bind (OLe.refl _) (fun _ => (OLe.cond (OLe.refl _) (OLe.bind (OLe.refl _) (fun _ => (OLe.bind (ha2 _ _) (fun _ => (OLe.cond (OLe.refl _) (OLe.refl _))))))))) (OLe.refl _))
noncomputable def slices_CompareFunc_c (a0 : List S50) (a1 : List S50) (a2 : S50 → S50 → Option Int) : Option Int :=
  Option.bind (loopF 1000000 (slices_CompareFunc_l17_c a0 a1 a2) 0) fun (r5 : (Unit) ⊕ (Int)) =>
  match r5 with
  | Sum.inl r13 => bif (decide ((a0.length : Int) < (a1.length : Int))) then
    (some (-1))
    else
    (some 0)
  | Sum.inr v43 => some v43
theorem slices_CompareFunc_ev (a0 : List S50) (a1 : List S50) {a2 a2' : S50 → S50 → Option Int} (ha2 : ∀ x0 x1, OLe (a2 x0 x1) (a2' x0 x1)) : OLe (slices_CompareFunc_c a0 a1 a2) (slices_CompareFunc a0 a1 a2') := by
  unfold slices_CompareFunc_c slices_CompareFunc
  exact (OLe.bind (OLe.loop (fun _ => slices_CompareFunc_l17_ev _ _ ha2 _)) (fun j => by cases j with | inl a => exact (OLe.cond (OLe.refl _) (OLe.refl _)) | inr b => exact (OLe.refl _)))
noncomputable def labels_Compare_c (a0 : List S50) (a1 : List S50) : Option Int :=
  Option.bind (slices_CompareFunc_c a0 a1 (fun x0 x1 => some (labels_Compare_1 x0 x1))) fun (y1 : Int) =>
  some y1
theorem labels_Compare_ev (a0 : List S50) (a1 : List S50) : OLe (labels_Compare_c a0 a1) (labels_Compare a0 a1) := by
  unfold labels_Compare_c labels_Compare
  exact (OLe.bind (slices_CompareFunc_ev _ _ (fun _ _ => OLe.refl _)) (fun _ => (OLe.refl _)))
noncomputable def nflog_rising_l17_c (a0 : List (List S50)) : Int → Option ((Int) ⊕ ((Unit) ⊕ (Bool))) := fun s7 =>
  bif (decide (s7 < (a0.length : Int))) then
  (Option.bind (ix a0 s7) fun (x20 : List S50) =>
    Option.bind (labels_Right_c x20) fun (y31 : Int × Int) =>
    Option.bind (bif (y31.1 != 0) then
      (some true)
      else
      (bif (decide (s7 > 0)) then
        (Option.bind (ix a0 (IntKind.wrap .i64 (s7 - 1))) fun (x40 : List S50) =>
          Option.bind (labels_Compare_c x40 x20) fun (y51 : Int) =>
          some (decide (y51 ≥ 0)))
        else
        (some false))) fun (j33 : Bool) =>
    bif j33 then
    (some (Sum.inr (Sum.inr false)))
    else
    (some (Sum.inl (IntKind.wrap .i64 (s7 + 1)))))
  else
  (some (Sum.inr (Sum.inl ())))
theorem nflog_rising_l17_ev (a0 : List (List S50)) (s7 : Int) : OLe (nflog_rising_l17_c a0 s7) (nflog_rising_l17 a0 s7) := by
  unfold nflog_rising_l17_c nflog_rising_l17
  exact (OLe.cond (OLe.bind (OLe.refl _) (fun _ => (OLe.bind (labels_Right_ev _) (fun _ => (OLe.bind (OLe.cond (OLe.refl _) (OLe.cond (OLe.bind (OLe.refl _) (fun _ => (OLe.bind (labels_Compare_ev _ _) (fun _ => (OLe.refl _))))) (OLe.refl _))) (fun _ => (OLe.cond (OLe.refl _) (OLe.refl _)))))))) (OLe.refl _))
noncomputable def nflog_rising_c (a0 : List (List S50)) : Option Bool :=
  Option.bind (loopF 1000000 (nflog_rising_l17_c a0) 0) fun (r5 : (Unit) ⊕ (Bool)) =>
  match r5 with
  | Sum.inl r13 => some true
  | Sum.inr v54 => some v54
theorem nflog_rising_ev (a0 : List (List S50)) : OLe (nflog_rising_c a0) (nflog_rising a0) := by
  unfold nflog_rising_c nflog_rising
  exact (OLe.bind (OLe.loop (fun _ => nflog_rising_l17_ev _ _)) (fun j => by cases j with | inl a => exact (OLe.refl _) | inr b => exact (OLe.refl _)))
noncomputable def nflog_Right_c (a0 : S23) : Option Int :=
  Option.bind (nflog_text_c a0.f0 64) fun (y2 : Bool) =>
  bif (!y2) then
  (some 204)
  else
  (Option.bind (nflog_text_c a0.f1 65536) fun (y5 : Bool) =>
    bif (!y5) then
    (some 40)
    else
    (bif ((decide (a0.f2 < 0)) || (decide (a0.f2 > 1125899906842624))) then
      (some 1)
      else
      (bif ((decide ((a0.f3.length : Int) > 500)) || (decide ((a0.f4.length : Int) > 500))) then
        (some 8)
        else
        (Option.bind (Option.bind (nflog_rising_c a0.f3) fun (y27 : Bool) =>
            bif (!y27) then
            (some true)
            else
            (Option.bind (nflog_rising_c a0.f4) fun (y30 : Bool) =>
              some (!y30))) fun (j22 : Bool) =>
          bif j22 then
          (some 41)
          else
          (some 0)))))
theorem nflog_Right_ev (a0 : S23) : OLe (nflog_Right_c a0) (nflog_Right a0) := by
  unfold nflog_Right_c nflog_Right
  exact (OLe.bind (nflog_text_ev _ _) (fun _ => (OLe.cond (OLe.refl _) (OLe.bind (nflog_text_ev _ _) (fun _ => (OLe.cond (OLe.refl _) (OLe.cond (OLe.refl _) (OLe.cond (OLe.refl _) (OLe.bind (OLe.bind (nflog_rising_ev _) (fun _ => (OLe.cond (OLe.refl _) (OLe.bind (nflog_rising_ev _) (fun _ => (OLe.refl _)))))) (fun _ => (OLe.cond (OLe.refl _) (OLe.refl _))))))))))))
noncomputable def nflog_Within_1_c (a0 : List S50) (a1 : List S50) : Option Bool :=
  Option.bind (labels_Compare_c a1 a0) fun (y1 : Int) =>
  some (y1 == 0)
theorem nflog_Within_1_ev (a0 : List S50) (a1 : List S50) : OLe (nflog_Within_1_c a0 a1) (nflog_Within_1 a0 a1) := by
  unfold nflog_Within_1_c nflog_Within_1
  exact (OLe.bind (labels_Compare_ev _ _) (fun _ => (OLe.refl _)))
noncomputable def nflog_Within_l17_c (a0 : List (List S50)) (a1 : List (List S50)) : Int → Option ((Int) ⊕ ((Unit) ⊕ (Bool))) := fun s7 =>
  bif (decide (s7 < (a0.length : Int))) then
  (Option.bind (ix a0 s7) fun (x20 : List S50) =>
    Option.bind (slices_ContainsFunc_c a1 (fun x0 => nflog_Within_1_c x0 x20)) fun (y32 : Bool) =>
    bif (!y32) then
    (some (Sum.inr (Sum.inr false)))
    else
    (some (Sum.inl (IntKind.wrap .i64 (s7 + 1)))))
  else
  (some (Sum.inr (Sum.inl ())))
theorem nflog_Within_l17_ev (a0 : List (List S50)) (a1 : List (List S50)) (s7 : Int) : OLe (nflog_Within_l17_c a0 a1 s7) (nflog_Within_l17 a0 a1 s7) := by
  unfold nflog_Within_l17_c nflog_Within_l17
  exact (OLe.cond (OLe.bind (OLe.refl _) (fun _ => (OLe.bind (slices_ContainsFunc_ev _ (fun _ => nflog_Within_1_ev _ _)) (fun _ => (OLe.cond (OLe.refl _) (OLe.refl _)))))) (OLe.refl _))
noncomputable def nflog_Within_c (a0 : List (List S50)) (a1 : List (List S50)) : Option Bool :=
  Option.bind (loopF 1000000 (nflog_Within_l17_c a0 a1) 0) fun (r5 : (Unit) ⊕ (Bool)) =>
  match r5 with
  | Sum.inl r13 => some true
  | Sum.inr v35 => some v35
theorem nflog_Within_ev (a0 : List (List S50)) (a1 : List (List S50)) : OLe (nflog_Within_c a0 a1) (nflog_Within a0 a1) := by
  unfold nflog_Within_c nflog_Within
  exact (OLe.bind (OLe.loop (fun _ => nflog_Within_l17_ev _ _ _)) (fun j => by cases j with | inl a => exact (OLe.refl _) | inr b => exact (OLe.refl _)))
noncomputable def nflog_Needs_c (a0 : S23) (a1 : Bool) (a2 : Int) (a3 : Int) (a4 : List (List S50)) (a5 : List (List S50)) : Option (Bool × Int) :=
  bif ((((decide (a2 < 0)) || (decide (a2 > 1125899906842624))) || (decide (a3 < 1))) || (decide (a3 > 1099511627776))) then
  (some (false, 1))
  else
  (Option.bind (Option.bind (nflog_right_c a4) fun (y16 : Bool) =>
      bif (!y16) then
      (some true)
      else
      (Option.bind (nflog_right_c a5) fun (y19 : Bool) =>
        some (!y19))) fun (j11 : Bool) =>
    bif j11 then
    (some (false, 41))
    else
    (bif (!a1) then
      (some ((decide ((a4.length : Int) > 0)), 0))
      else
      (Option.bind (nflog_Right_c a0) fun (y23 : Int) =>
        bif (y23 != 0) then
        (some (false, y23))
        else
        (Option.bind (nflog_Within_c a4 a0.f3) fun (y26 : Bool) =>
          bif (!y26) then
          (some (true, 0))
          else
          (bif ((a4.length : Int) == 0) then
            (some ((decide ((a0.f3.length : Int) > 0)), 0))
            else
            (Option.bind (nflog_Within_c a5 a0.f4) fun (y30 : Bool) =>
              bif (!y30) then
              (some (true, 0))
              else
              (some ((decide (a0.f2 ≤ (IntKind.wrap .i64 (a2 - a3)))), 0))))))))
theorem nflog_Needs_ev (a0 : S23) (a1 : Bool) (a2 : Int) (a3 : Int) (a4 : List (List S50)) (a5 : List (List S50)) : OLe (nflog_Needs_c a0 a1 a2 a3 a4 a5) (nflog_Needs a0 a1 a2 a3 a4 a5) := by
  unfold nflog_Needs_c nflog_Needs
  exact (OLe.cond (OLe.refl _) (OLe.bind (OLe.bind (nflog_right_ev _) (fun _ => (OLe.cond (OLe.refl _) (OLe.bind (nflog_right_ev _) (fun _ => (OLe.refl _)))))) (fun _ => (OLe.cond (OLe.refl _) (OLe.cond (OLe.refl _) (OLe.bind (nflog_Right_ev _) (fun _ => (OLe.cond (OLe.refl _) (OLe.bind (nflog_Within_ev _ _) (fun _ => (OLe.cond (OLe.refl _) (OLe.cond (OLe.refl _) (OLe.bind (nflog_Within_ev _ _) (fun _ => (OLe.cond (OLe.refl _) (OLe.refl _))))))))))))))))
noncomputable def slices_Clone_c (a0 : List S50) : Option (List S50) :=
  Option.bind (app ([] : List S50) a0) fun (zs3 : List S50) =>
  some zs3
theorem slices_Clone_ev (a0 : List S50) : OLe (slices_Clone_c a0) (slices_Clone a0) := by
  unfold slices_Clone_c slices_Clone
  exact (OLe.bind (OLe.refl _) (fun _ => (OLe.refl _)))
noncomputable def nflog_sets_l28_c (a0 : List (List S50)) : ((List (List S50)) × Int) → Option (((List (List S50)) × Int) ⊕ ((List (List S50)))) := fun s11 =>
  bif (decide (s11.2 < (a0.length : Int))) then
  (Option.bind (ix a0 s11.2) fun (x31 : List S50) =>
    Option.bind (slices_Clone_c x31) fun (y42 : (List S50)) =>
    Option.bind (app s11.1 [y42]) fun (zs59 : List (List S50)) =>
    some (Sum.inl (zs59, (IntKind.wrap .i64 (s11.2 + 1)))))
  else
  (some (Sum.inr s11.1))
theorem nflog_sets_l28_ev (a0 : List (List S50)) (s11 : (List (List S50)) × Int) : OLe (nflog_sets_l28_c a0 s11) (nflog_sets_l28 a0 s11) := by
  unfold nflog_sets_l28_c nflog_sets_l28
  exact (OLe.cond (OLe.bind (OLe.refl _) (fun _ => (OLe.bind (slices_Clone_ev _) (fun _ => (OLe.bind (OLe.refl _) (fun _ => (OLe.refl _))))))) (OLe.refl _))
noncomputable def nflog_sets_c (a0 : List (List S50)) : Option (List (List S50)) :=
  Option.bind (loopF 1000000 (nflog_sets_l28_c a0) ([], 0)) fun (r9 : (List (List S50))) =>
  some r9
theorem nflog_sets_ev (a0 : List (List S50)) : OLe (nflog_sets_c a0) (nflog_sets a0) := by
  unfold nflog_sets_c nflog_sets
  exact (OLe.bind (OLe.loop (fun _ => nflog_sets_l28_ev _ _)) (fun _ => (OLe.refl _)))
noncomputable def slices_IndexFunc_f78_l17_c (a0 : List S96) (a1 : S96 → Option Bool) : Int → Option ((Int) ⊕ ((Unit) ⊕ (Int))) := fun s7 =>
  bif (decide (s7 < (a0.length : Int))) then
  (Option.bind (ix a0 s7) fun (x20 : S96) =>
    Option.bind (a1 x20) fun (y35 : Bool) =>
    bif y35 then
    (some (Sum.inr (Sum.inr s7)))
    else
    (some (Sum.inl (IntKind.wrap .i64 (s7 + 1)))))
  else
  (some (Sum.inr (Sum.inl ())))
theorem slices_IndexFunc_f78_l17_ev (a0 : List S96) {a1 a1' : S96 → Option Bool} (ha1 : ∀ x0, OLe (a1 x0) (a1' x0)) (s7 : Int) : OLe (slices_IndexFunc_f78_l17_c a0 a1 s7) (slices_IndexFunc_f78_l17 a0 a1' s7) := by
  unfold slices_IndexFunc_f78_l17_c slices_IndexFunc_f78_l17
  exact (OLe.cond (OLe.bind (OLe.refl _) (fun _ => (OLe.bind (ha1 _) (fun _ => (OLe.cond (OLe.refl _) (OLe.refl _)))))) (OLe.refl _))
noncomputable def slices_IndexFunc_f78_c (a0 : List S96) (a1 : S96 → Option Bool) : Option Int :=
  Option.bind (loopF 1000000 (slices_IndexFunc_f78_l17_c a0 a1) 0) fun (r5 : (Unit) ⊕ (Int)) =>
  match r5 with
  | Sum.inl r13 => some (-1)
  | Sum.inr v37 => some v37
theorem slices_IndexFunc_f78_ev (a0 : List S96) {a1 a1' : S96 → Option Bool} (ha1 : ∀ x0, OLe (a1 x0) (a1' x0)) : OLe (slices_IndexFunc_f78_c a0 a1) (slices_IndexFunc_f78 a0 a1') := by
  unfold slices_IndexFunc_f78_c slices_IndexFunc_f78
  exact (OLe.bind (OLe.loop (fun _ => slices_IndexFunc_f78_l17_ev _ ha1 _)) (fun j => by cases j with | inl a => exact (OLe.refl _) | inr b => exact (OLe.refl _)))
noncomputable def nflog_list_find_c (a0 : S66) (a1 : S74) : Option (Int × Bool) :=
  Option.bind (slices_IndexFunc_f78_c a0.f0 (fun x0 => some (nflog_list_find_1 x0 a1))) fun (y2 : Int) =>
  bif (decide (y2 < 0)) then
  (some ((a0.f0.length : Int), false))
  else
  (Option.bind (ix a0.f0 y2) fun (x5 : S96) =>
    some (y2, ((x5.f0.f0.toList == a1.f0.toList) && (x5.f0.f1.toList == a1.f1.toList))))
theorem nflog_list_find_ev (a0 : S66) (a1 : S74) : OLe (nflog_list_find_c a0 a1) (nflog_list_find a0 a1) := by
  unfold nflog_list_find_c nflog_list_find
  exact (OLe.bind (slices_IndexFunc_f78_ev _ (fun _ => OLe.refl _)) (fun _ => (OLe.cond (OLe.refl _) (OLe.bind (OLe.refl _) (fun _ => (OLe.refl _))))))
noncomputable def nflog_own_c (a0 : S23) : Option S23 :=
  Option.bind (nflog_sets_c a0.f3) fun (y3 : (List (List S50))) =>
  Option.bind (nflog_sets_c a0.f4) fun (y12 : (List (List S50))) =>
  some (⟨a0.f0, a0.f1, a0.f2, y3, y12⟩ : S23)
theorem nflog_own_ev (a0 : S23) : OLe (nflog_own_c a0) (nflog_own a0) := by
  unfold nflog_own_c nflog_own
  exact (OLe.bind (nflog_sets_ev _) (fun _ => (OLe.bind (nflog_sets_ev _) (fun _ => (OLe.refl _)))))
noncomputable def nflog_Log_Find_c (a0 : S68) (a1 : ByteArray) (a2 : ByteArray) : Option (S23 × Bool) :=
  Option.bind (nflog_list_find_c a0.f0 (⟨a1, a2⟩ : S74)) fun (y2 : Int × Bool) =>
  bif (!y2.2) then
  (some ((⟨(⟨#[]⟩ : ByteArray), (⟨#[]⟩ : ByteArray), 0, [], []⟩ : S23), false))
  else
  (Option.bind (ix a0.f0.f0 y2.1) fun (x12 : S96) =>
    Option.bind (nflog_own_c x12.f1) fun (y27 : S23) =>
    some (y27, true))
theorem nflog_Log_Find_ev (a0 : S68) (a1 : ByteArray) (a2 : ByteArray) : OLe (nflog_Log_Find_c a0 a1 a2) (nflog_Log_Find a0 a1 a2) := by
  unfold nflog_Log_Find_c nflog_Log_Find
  exact (OLe.bind (nflog_list_find_ev _ _) (fun _ => (OLe.cond (OLe.refl _) (OLe.bind (OLe.refl _) (fun _ => (OLe.bind (nflog_own_ev _) (fun _ => (OLe.refl _))))))))
noncomputable def nflog_Log_Needs_c (a0 : S68) (a1 : ByteArray) (a2 : ByteArray) (a3 : Int) (a4 : Int) (a5 : List (List S50)) (a6 : List (List S50)) : Option (Bool × Int) :=
  Option.bind (nflog_Log_Find_c a0 a1 a2) fun (y1 : S23 × Bool) =>
  Option.bind (nflog_Needs_c y1.1 y1.2 a3 a4 a5 a6) fun (y13 : Bool × Int) =>
  some (y13.1, y13.2)
theorem nflog_Log_Needs_ev (a0 : S68) (a1 : ByteArray) (a2 : ByteArray) (a3 : Int) (a4 : Int) (a5 : List (List S50)) (a6 : List (List S50)) : OLe (nflog_Log_Needs_c a0 a1 a2 a3 a4 a5 a6) (nflog_Log_Needs a0 a1 a2 a3 a4 a5 a6) := by
  unfold nflog_Log_Needs_c nflog_Log_Needs
  exact (OLe.bind (nflog_Log_Find_ev _ _ _) (fun _ => (OLe.bind (nflog_Needs_ev _ _ _ _ _ _) (fun _ => (OLe.refl _)))))
noncomputable def nflog_list_put_c (a0 : S66) (a1 : S74) (a2 : S23) : Option S66 :=
  Option.bind (nflog_list_find_c a0 a1) fun (y3 : Int × Bool) =>
  bif y3.2 then
  (Option.bind (ix a0.f0 y3.1) fun (x9 : S96) =>
    some (⟨(lset a0.f0 y3.1 (⟨x9.f0, a2⟩ : S96))⟩ : S66))
  else
  (Option.bind (linsert a0.f0 y3.1 (⟨(⟨a1.f0, a1.f1⟩ : S74), (⟨a2.f0, a2.f1, a2.f2, a2.f3, a2.f4⟩ : S23)⟩ : S96)) fun (zs31 : List S96) =>
    some (⟨zs31⟩ : S66))
theorem nflog_list_put_ev (a0 : S66) (a1 : S74) (a2 : S23) : OLe (nflog_list_put_c a0 a1 a2) (nflog_list_put a0 a1 a2) := by
  unfold nflog_list_put_c nflog_list_put
  exact (OLe.bind (nflog_list_find_ev _ _) (fun _ => (OLe.cond (OLe.bind (OLe.refl _) (fun _ => (OLe.refl _))) (OLe.bind (OLe.refl _) (fun _ => (OLe.refl _))))))
noncomputable def nflog_Log_Put_c (a0 : S68) (a1 : S23) : Option (Int × S68) :=
  Option.bind (nflog_Right_c a1) fun (y2 : Int) =>
  bif (y2 != 0) then
  (some (y2, a0))
  else
  (Option.bind (nflog_Log_Find_c a0 a1.f0 a1.f1) fun (y5 : S23 × Bool) =>
    bif (y5.2 && (decide (y5.1.f2 > a1.f2))) then
    (some (90, a0))
    else
    (Option.bind (bif (!y5.2) then
        (some (decide ((nflog_Log_Len a0) ≥ 500)))
        else
        (some false)) fun (j24 : Bool) =>
      bif j24 then
      (some (8, a0))
      else
      (Option.bind (nflog_own_c a1) fun (y34 : S23) =>
        Option.bind (nflog_list_put_c a0.f0 (⟨a1.f0, a1.f1⟩ : S74) y34) fun (y45 : S66) =>
        some (0, (⟨(⟨y45.f0⟩ : S66)⟩ : S68)))))
theorem nflog_Log_Put_ev (a0 : S68) (a1 : S23) : OLe (nflog_Log_Put_c a0 a1) (nflog_Log_Put a0 a1) := by
  unfold nflog_Log_Put_c nflog_Log_Put
  exact (OLe.bind (nflog_Right_ev _) (fun _ => (OLe.cond (OLe.refl _) (OLe.bind (nflog_Log_Find_ev _ _ _) (fun _ => (OLe.cond (OLe.refl _) (OLe.bind (OLe.cond (OLe.refl _) (OLe.refl _)) (fun _ => (OLe.cond (OLe.refl _) (OLe.bind (nflog_own_ev _) (fun _ => (OLe.bind (nflog_list_put_ev _ _ _) (fun _ => (OLe.refl _))))))))))))))
noncomputable def tocsinlaw26_awake_c : Option Bool :=
  Option.bind (nflog_Log_Needs_c (⟨(⟨nflog_New.f0.f0⟩ : S66)⟩ : S68) (⟨#[116, 101, 97, 109]⟩ : ByteArray) (⟨#[107]⟩ : ByteArray) 100 50 [[(⟨(⟨#[97]⟩ : ByteArray), (⟨#[49]⟩ : ByteArray)⟩ : S50)]] []) fun (y25 : Bool × Int) =>
  Option.bind (nflog_Log_Put_c (⟨(⟨nflog_New.f0.f0⟩ : S66)⟩ : S68) (⟨(⟨#[116, 101, 97, 109]⟩ : ByteArray), (⟨#[107]⟩ : ByteArray), 100, [[(⟨(⟨#[97]⟩ : ByteArray), (⟨#[49]⟩ : ByteArray)⟩ : S50)]], []⟩ : S23)) fun (y30 : Int × S68) =>
  Option.bind (nflog_Log_Needs_c y30.2 (⟨#[116, 101, 97, 109]⟩ : ByteArray) (⟨#[107]⟩ : ByteArray) 120 50 [[(⟨(⟨#[97]⟩ : ByteArray), (⟨#[49]⟩ : ByteArray)⟩ : S50)]] []) fun (y39 : Bool × Int) =>
  Option.bind (nflog_Log_Needs_c y30.2 (⟨#[116, 101, 97, 109]⟩ : ByteArray) (⟨#[107]⟩ : ByteArray) 150 50 [[(⟨(⟨#[97]⟩ : ByteArray), (⟨#[49]⟩ : ByteArray)⟩ : S50)]] []) fun (y44 : Bool × Int) =>
  some ((((((y25.1 && (y25.2 == 0)) && (y30.1 == 0)) && (!y39.1)) && (y39.2 == 0)) && y44.1) && (y44.2 == 0))
theorem tocsinlaw26_awake_ev  : OLe (tocsinlaw26_awake_c ) (tocsinlaw26_awake ) := by
  unfold tocsinlaw26_awake_c tocsinlaw26_awake
  exact (OLe.bind (nflog_Log_Needs_ev _ _ _ _ _ _ _) (fun _ => (OLe.bind (nflog_Log_Put_ev _ _) (fun _ => (OLe.bind (nflog_Log_Needs_ev _ _ _ _ _ _ _) (fun _ => (OLe.bind (nflog_Log_Needs_ev _ _ _ _ _ _ _) (fun _ => (OLe.refl _)))))))))
end Go.Proofs.YtcnnbaneoehilaaDoor

set_option linter.unusedVariables false
set_option linter.unusedSimpArgs false
set_option maxRecDepth 100000
namespace Go.Proofs.YtcnnbaneoehilaaDoor
open Go.GB Go.Lib
theorem awake_true : tocsinlaw26_awake = some true := tocsinlaw26_awake_ev _ (by kernel_rfl)
theorem up_all_list {α : Type} {l : List α} {body : Int → Option (Int ⊕ (Unit ⊕ Bool))} (q : α → Bool) (h : ∀ (i : Nat) (hi : i < l.length), body i = some (bif q l[i] then .inl ((i + 1 : Nat) : Int) else .inr (.inr false))) (he : body l.length = some (.inr (.inl ()))) :
    loopO body 0 = some (if l.all q then .inl () else .inr false) := by
  rw [up_all (n := l.length) (fun i => match l[i]? with | some x => q x | none => true) (fun i hi => by rw [h i hi, List.getElem?_eq_getElem hi]) he]
  have : (List.range l.length).all (fun i => match l[i]? with | some x => q x | none => true) = l.all q := by
    rw [Bool.eq_iff_iff, List.all_eq_true, List.all_eq_true]
    constructor
    · intro h x hx
      obtain ⟨i, hi, rfl⟩ := List.mem_iff_getElem.1 hx
      have := h i (by simpa using hi)
      rwa [List.getElem?_eq_getElem hi] at this
    · intro h i hi
      have hi' : i < l.length := by simpa using hi
      rw [List.getElem?_eq_getElem hi']
      exact h _ (List.getElem_mem hi')
  rw [this]
theorem contains_eq {l : Sets} (hl : l.length ≤ 2147483648) {f : List S50 → Option Bool} {q : List S50 → Bool} (hf : ∀ x ∈ l, f x = some (q x)) : slices_ContainsFunc l f = some (l.any q) := by
  have key : ∀ d i : Nat, l.length - i = d → i ≤ l.length → ∃ r, loopO (slices_IndexFunc_l17 l f) (i : Int) = some r ∧ (match r with | .inl _ => (l.drop i).any q = false | .inr y => 0 ≤ y ∧ (l.drop i).any q = true) := by
    intro d
    induction d with
    | zero =>
      intro i hd hi
      obtain rfl : i = l.length := by omega
      refine ⟨.inl (), loopO_done ?_, by simp⟩
      unfold slices_IndexFunc_l17
      rw [show decide ((l.length : Int) < (l.length : Int)) = false from decide_eq_false (by omega)]
      rfl
    | succ d ih =>
      intro i hd hi
      have hlt : i < l.length := by omega
      have e1 : ix l ((i : Nat) : Int) = some l[i] := by rw [ix_nat, List.getElem?_eq_getElem hlt]
      have e4 : decide (((i : Nat) : Int) < (l.length : Int)) = true := decide_eq_true (by omega)
      have e5 := hf l[i] (List.getElem_mem hlt)
      have hd' : (l.drop i).any q = (q l[i] || (l.drop (i + 1)).any q) := by rw [List.drop_eq_getElem_cons hlt]; rfl
      cases hq : q l[i] with
      | true =>
        rw [hq] at e5
        refine ⟨.inr (i : Int), loopO_done ?_, (⟨by omega, by rw [hd', hq]; rfl⟩ : 0 ≤ (i : Int) ∧ (l.drop i).any q = true)⟩
        unfold slices_IndexFunc_l17
        simp only [e4, cond_true, e1, Option.bind_some, e5]
      | false =>
        rw [hq] at e5
        have hb : slices_IndexFunc_l17 l f (i : Int) = some (.inl ((i + 1 : Nat) : Int)) := by
          unfold slices_IndexFunc_l17
          simp only [e4, cond_true, e1, Option.bind_some, e5, cond_false, wrap_up (show i < 4294967296 by omega)]
        obtain ⟨r, h1, h2⟩ := ih (i + 1) (by omega) (by omega)
        refine ⟨r, by rw [loopO_step hb]; exact h1, ?_⟩
        cases r with
        | inl u => show (l.drop i).any q = false; rw [hd', hq]; exact h2
        | inr y => show 0 ≤ y ∧ (l.drop i).any q = true; rw [hd', hq]; exact h2
  obtain ⟨r, h1, h2⟩ := key l.length 0 (by omega) (by omega)
  unfold slices_ContainsFunc slices_IndexFunc
  rw [show ((0 : Nat) : Int) = 0 from rfl] at h1
  rw [h1]
  cases r with
  | inl u => simp only [List.drop_zero] at h2; simp [h2]
  | inr y => simp only [List.drop_zero] at h2; simp [h2.2]; omega
noncomputable def okSets (l : Sets) : Bool := l.all fun x => decide ((rightE x).1 = 0)
theorem right_eq {l : Sets} (hl : l.length ≤ 2147483648) : nflog_right l = some (okSets l) := by
  unfold nflog_right
  rw [contains_eq hl (q := fun x => (rightE x).1 != 0) (fun x _ => by unfold nflog_right_1; rw [Right_eq]; rfl)]
  simp only [Option.bind_some, okSets, Option.some.injEq]
  rw [Bool.eq_iff_iff]
  simp
def inB (a b : Sets) : Bool := a.all fun x => b.any fun y => decide (cmpL x y = 0)
theorem Within_eq {a b : Sets} (ha : Ws a) (hb : b.length ≤ 2147483648) : nflog_Within a b = some (inB a b) := by
  obtain ⟨h1, h2⟩ := ha
  unfold nflog_Within
  rw [up_all_list (l := a) (fun x => b.any fun y => decide (cmpL x y = 0)) (fun i hi => ?_) ?_]
  · unfold inB
    cases a.all (fun x => b.any fun y => decide (cmpL x y = 0)) <;> rfl
  · unfold nflog_Within_l17
    rw [show decide ((a.length : Int) < (a.length : Int)) = false from decide_eq_false (by omega)]
    rfl
  · unfold nflog_Within_l17
    have e1 : ix a ((i : Nat) : Int) = some a[i] := by rw [ix_nat, List.getElem?_eq_getElem hi]
    have e4 : decide (((i : Nat) : Int) < (a.length : Int)) = true := decide_eq_true (by omega)
    simp only [e4, cond_true, e1, Option.bind_some]
    rw [contains_eq hb (q := fun y => decide (cmpL a[i] y = 0)) (fun y _ => by
      unfold nflog_Within_1
      rw [compare_eq _ _ (h2 _ (List.getElem_mem hi))]
      simp only [Option.bind_some, Option.some.injEq]
      rw [Bool.eq_iff_iff]; simp)]
    simp only [Option.bind_some, wrap_up (show i < 4294967296 by omega)]
    cases b.any (fun y => decide (cmpL a[i] y = 0)) <;> rfl
theorem refWithin_eq {a b : Sets} (ha : Ws a) (hb : b.length ≤ 2147483648) : tocsinref26_Within a b = some (inB a b) := by
  obtain ⟨h1, h2⟩ := ha
  unfold tocsinref26_Within
  rw [up_all_list (l := a) (fun x => b.any fun y => decide (cmpL x y = 0)) (fun i hi => ?_) ?_]
  · unfold inB
    cases a.all (fun x => b.any fun y => decide (cmpL x y = 0)) <;> rfl
  · unfold tocsinref26_Within_l17
    rw [show decide ((a.length : Int) < (a.length : Int)) = false from decide_eq_false (by omega)]
    rfl
  · unfold tocsinref26_Within_l17
    have e1 : ix a ((i : Nat) : Int) = some a[i] := by rw [ix_nat, List.getElem?_eq_getElem hi]
    have e4 : decide (((i : Nat) : Int) < (a.length : Int)) = true := decide_eq_true (by omega)
    have hin : loopO (tocsinref26_Within_l46 b a[i]) (false, 0) = some (b.any fun y => decide (cmpL a[i] y = 0)) := by
      have := up_inv (body := tocsinref26_Within_l46 b a[i]) (fun k => ((b.take k).any (fun y => decide (cmpL a[i] y = 0)), (k : Int))) (n := b.length) (r := b.any fun y => decide (cmpL a[i] y = 0)) (fun k hk => ?_) ?_ 0 (Nat.zero_le _)
      · simpa using this
      · unfold tocsinref26_Within_l46
        have f1 : ix b ((k : Nat) : Int) = some b[k] := by rw [ix_nat, List.getElem?_eq_getElem hk]
        have f4 : decide (((k : Nat) : Int) < (b.length : Int)) = true := decide_eq_true (by omega)
        simp only [f4, cond_true, f1, Option.bind_some, wrap_up (show k < 4294967296 by omega)]
        rw [← List.take_append_getElem hk, List.any_append]
        cases (b.take k).any (fun y => decide (cmpL a[i] y = 0)) with
        | true => rfl
        | false =>
          simp only [cond_false, refSame_eq _ _ (h2 _ (List.getElem_mem hi)), Option.bind_some, Bool.false_or, List.any_cons, List.any_nil, Bool.or_false]
      · unfold tocsinref26_Within_l46
        have f4 : decide ((b.length : Int) < (b.length : Int)) = false := decide_eq_false (by omega)
        simp only [f4, cond_false, List.take_length]
    simp only [e4, cond_true, e1, Option.bind_some, hin, wrap_up (show i < 4294967296 by omega)]
    cases b.any (fun y => decide (cmpL a[i] y = 0)) <;> rfl
theorem sets_eq {l : Sets} (hl : Ws l) : nflog_sets l = some l := by
  obtain ⟨h1, h2⟩ := hl
  unfold nflog_sets
  have h : loopO (nflog_sets_l28 l) ([], 0) = some l := by
    have := up_inv (body := nflog_sets_l28 l) (fun i => (l.take i, (i : Int))) (n := l.length) (r := l) (fun i hi => ?_) ?_ 0 (Nat.zero_le _)
    · simpa using this
    · unfold nflog_sets_l28
      have e1 : ix l ((i : Nat) : Int) = some l[i] := by rw [ix_nat, List.getElem?_eq_getElem hi]
      have e2 : app ([] : List S50) l[i] = some l[i] := by unfold app maxLen'; rw [if_pos (by have := h2 _ (List.getElem_mem hi); unfold Wl at this; simpa using this)]; simp
      have e3 : app (l.take i) [l[i]] = some (l.take (i + 1)) := by
        unfold app maxLen'
        rw [if_pos (by simp; omega), List.take_append_getElem hi]
      have e4 : decide (((i : Nat) : Int) < (l.length : Int)) = true := decide_eq_true (by omega)
      simp only [e4, cond_true, e1, Option.bind_some, slices_Clone, e2, e3, wrap_up (show i < 4294967296 by omega)]
    · unfold nflog_sets_l28
      have e4 : decide ((l.length : Int) < (l.length : Int)) = false := decide_eq_false (by omega)
      simp only [e4, cond_false, List.take_length]
  rw [h]; rfl
theorem cmpOk : SortOk (fun l : List S50 => l.length ≤ 2147483648) labels_Compare cmpL := by
  refine ⟨fun x y hx _ => compare_eq x y hx, ⟨fun x => ?_, fun x y z h1 h2 => ?_, fun x y z h1 h2 => ?_⟩, fun x y h1 h2 => ?_⟩
  · rw [cmpL_self]; rfl
  · have a1 := cmpL_range x y
    have a2 := cmpL_range y z
    have b1 := of_decide_eq_true h1
    have b2 := of_decide_eq_true h2
    rw [cmpL_trans (show cmpL x y = -1 by omega) (show cmpL y z = -1 by omega)]; rfl
  · have b1 := of_decide_eq_false h1
    have b2 := of_decide_eq_false h2
    have a1 := cmpL_range x y
    have a2 := cmpL_range y z
    refine decide_eq_false fun h3 => ?_
    have a3 := cmpL_range x z
    by_cases c1 : cmpL x y = 0
    · rw [cmpL_zero c1] at h3; exact b2 h3
    by_cases c2 : cmpL y z = 0
    · rw [← cmpL_zero c2] at h3; exact b1 h3
    have d1 := cmpL_swap x y
    have d2 := cmpL_swap y z
    have := cmpL_trans (show cmpL z y = -1 by omega) (show cmpL y x = -1 by omega)
    have d3 := cmpL_swap x z
    omega
  · have a1 := cmpL_range x y
    have d1 := cmpL_swap x y
    exact cmpL_zero (by omega)
end Go.Proofs.YtcnnbaneoehilaaDoor
