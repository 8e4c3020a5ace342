/- Plain laws: and, or, unless. -/
import Derived.Test.YtkjkkimnjpodiaaGreatDoorV1cq
import Derived.Test.YtkjkkimnjpodiaaGreatDoorGB32q
import Derived.Test.YtkjkkimnjpodiaaGreatDoorRows
import Derived.Deep.Slices
import Derived.Below
import Derived.Lib.ValidLaws
import Derived.Lib.Bytealg
set_option linter.unusedVariables false
set_option linter.unusedSimpArgs false
set_option maxRecDepth 100000
namespace Go.Proofs.YtkjkkimnjpodiaaGreatDoor
open Go.GB
/-! 4 tocsinlaw15_VecTurns  -/
end Go.Proofs.YtkjkkimnjpodiaaGreatDoor

/- From data that are read to what the walks ask: rows. -/
set_option linter.unusedVariables false
set_option linter.unusedSimpArgs false
namespace Go.GB
open Go Go.RowKit
open Go.Proofs.YtkjkkimnjpodiaaGreatDoor.Rows (uptoBulk uptoBulkAll)

def immOf (W : World) : Imm := ⟨fun b => W.heap[b]?, W.os, W.tape, W.output, 0⟩
theorem holds_immOf (W : World) : Holds (immOf W) [] W := ⟨fun _ _ h => h, by simp, by simp, by simp, rfl, rfl, rfl, Nat.zero_le _⟩
theorem below_of {I' : Imm} {L' : Own} {W W' : World} (h : Holds I' L' W') (hI : immOf W ≤ I') : Below W.heap.size W W' := by
  refine ⟨by rw [h.os, hI.os]; rfl, by rw [h.tape, hI.tape]; rfl, by rw [h.out, hI.out]; rfl, ?_, fun k hk => ?_⟩
  · rcases Nat.eq_zero_or_pos W.heap.size with h0 | h0
    · omega
    · have : W.heap[W.heap.size - 1]? = some (W.heap[W.heap.size - 1]'(by omega)) := Array.getElem?_eq_getElem _
      have := lt_of_heap (h.imm _ _ (hI.h _ _ this))
      omega
  · have : W.heap[k]? = some (W.heap[k]) := Array.getElem?_eq_getElem hk
    rw [this]; exact h.imm _ _ (hI.h _ _ this)
theorem imm_cell {W : World} {a : Addr} {v : Value} (h : W.cell? a = some v) : (immOf W).cell a = some v := h
theorem run_of_cells {W : World} {a : Addr} {n : Nat} {cs : List Value} (h : W.cells? 0 a n = some cs) : RunAt (immOf W) a cs := fun j v hj => by
  unfold World.cells? at h
  rw [if_pos (Nat.zero_le _)] at h
  have hl := mapM_some_length h
  have hj' : j < n := by have := (List.getElem?_eq_some_iff.1 hj).1; simpa [hl] using this
  have := mapM_some_get h j j (by simp [hj'])
  exact imm_cell (this.trans hj)

def Reads {α : Type} (P : Program) (T : TypeId) (d : Kd α) (w : α → Nat → Prop) : Prop := ∀ {H : Type} {enc : TypeId × Value → H} {W : World} {spare : Nat → Bool} {held : Bool} {fuel : Nat} {cs : List Value} {x : DataW H × List MemPlace},
  DataW.trod enc P W 0 spare held fuel T cs = some x → uptoBulk x.1 ≤ 1048576 → ∃ y, d.R (immOf W) y cs ∧ w y (uptoBulk x.1)
theorem reads_int {P : Program} {T : TypeId} {k : IntKind} (h : P.underlying T = some (.int k)) : Reads P T (Kd.int k) (wInt k) := fun ht _ => by
  obtain ⟨n, rfl, _, hw⟩ := DataW.trod_int h ht
  simp only [Lit.wf, Bool.and_eq_true, decide_eq_true_eq] at hw
  exact ⟨n, rfl, hw⟩
theorem reads_bool {P : Program} {T : TypeId} (h : P.underlying T = some .bool) : Reads P T Kd.bool wBool := fun ht _ => by
  obtain ⟨n, rfl, _⟩ := DataW.trod_bool h ht
  exact ⟨n, rfl, trivial⟩
theorem reads_str {P : Program} {T : TypeId} (h : P.underlying T = some .string) : Reads P T Kd.str wStr := fun ht _ => by
  obtain ⟨n, rfl, rfl, _⟩ := DataW.trod_string h ht
  exact ⟨n, rfl, by simp [uptoBulk, wStr]⟩
theorem bulk_pos {H : Type} (d : DataW H) : 1 ≤ uptoBulk d := by
  cases d with
  | lit l => cases l <;> simp [uptoBulk]
  | _ => simp [uptoBulk]
theorem bulkAll_ge {H : Type} : ∀ (l : List (DataW H)), l.length ≤ uptoBulkAll l
  | [] => by simp
  | d :: r => by have := bulk_pos d; have := bulkAll_ge r; simp only [uptoBulkAll, List.length_cons]; omega
theorem bulkAll_mem {H : Type} {d : DataW H} : ∀ {l : List (DataW H)}, d ∈ l → uptoBulk d ≤ uptoBulkAll l
  | [], h => by cases h
  | e :: r, h => by
    simp only [uptoBulkAll]
    rcases List.mem_cons.1 h with rfl | h
    · omega
    · have := bulkAll_mem h; omega
theorem choose_list {α : Type} {p : Nat → α → Prop} : ∀ (n : Nat), (∀ i, i < n → ∃ y, p i y) → ∃ xs : List α, xs.length = n ∧ ∀ i x, xs[i]? = some x → p i x
  | 0, _ => ⟨[], rfl, fun i x h => by simp at h⟩
  | m + 1, key => by
    obtain ⟨xs, hxl, hx⟩ := choose_list m (fun i hi => key i (by omega))
    obtain ⟨y, hy⟩ := key m (by omega)
    refine ⟨xs ++ [y], by simp [hxl], fun i x h => ?_⟩
    rcases Nat.lt_or_ge i m with hi | hi
    · rw [List.getElem?_append_left (by omega)] at h; exact hx i x h
    · rw [List.getElem?_append_right (by omega), hxl] at h
      have hi0 : i - m = 0 := by have := (List.getElem?_eq_some_iff.1 h).1; simpa using this
      rw [hi0] at h
      simp only [List.getElem?_cons_zero, Option.some.injEq] at h
      subst h
      rw [show i = m from by omega]
      exact hy
theorem wSl_of {α H : Type} {w : α → Nat → Prop} : ∀ (xs : List α) (es : List (DataW H)), xs.length = es.length → (∀ (i : Nat) (x : α) (e : DataW H), xs[i]? = some x → es[i]? = some e → w x (uptoBulk e)) → wSl w xs (uptoBulkAll es)
  | [], _, _, _ => trivial
  | x :: r, [], h, _ => by simp at h
  | x :: r, e :: es, h, hw => ⟨uptoBulk e, uptoBulkAll es, hw 0 x e rfl rfl, wSl_of r es (by simpa using h) (fun i x' e' h1 h2 => hw (i + 1) x' e' (by simpa using h1) (by simpa using h2)), by simp [uptoBulkAll], bulk_pos e⟩
theorem reads_slice {α : Type} {P : Program} {T e : TypeId} {d : Kd α} {w : α → Nat → Prop} (hu : P.underlying T = some (.slice e)) (hn : P.cellsOf e = d.n) (hr : Reads P e d w) : Reads P T (Kd.sl d) (wSl w) := by
  intro H enc W spare held fuel cs x ht hb
  rcases DataW.trod_slice hu ht with ⟨rfl, rfl⟩ | ⟨a, len, cap, elems, rest, n, rfl, rfl, rfl, _, hlc, hcm, hel, hat, _, _⟩
  · exact ⟨[], ⟨none, 0, rfl, RepS.nil _ _⟩, trivial⟩
  · simp only [uptoBulk] at hb
    have hlen := bulkAll_ge (elems.map (·.1))
    rw [List.length_map, hel] at hlen
    have key : ∀ i, i < len → ∃ y, (∃ cs', d.R (immOf W) y cs' ∧ RunAt (immOf W) (a.add (i * d.n)) cs') ∧ ∀ e, (elems.map (·.1))[i]? = some e → w y (uptoBulk e) := fun i hi => by
      have h1 := hat i hi
      have hie : i < elems.length := by omega
      rw [List.getElem?_eq_getElem hie] at h1
      simp only [Option.bind_eq_some_iff] at h1
      obtain ⟨cs', h2, h3⟩ := h1
      obtain ⟨y, hy, hw⟩ := hr h3 (by
        have := bulkAll_mem (l := elems.map (·.1)) (List.mem_map_of_mem (List.getElem_mem hie))
        omega)
      refine ⟨y, ⟨cs', hy, ?_⟩, fun e he => ?_⟩
      · rw [← hn]
        exact run_of_cells h2
      · rw [List.getElem?_map, List.getElem?_eq_getElem hie] at he
        cases he; exact hw
    have hex := choose_list (p := fun i y => (∃ cs', d.R (immOf W) y cs' ∧ RunAt (immOf W) (a.add (i * d.n)) cs') ∧ ∀ e, (elems.map (·.1))[i]? = some e → w y (uptoBulk e)) len key
    obtain ⟨xs, hxl, hx⟩ := hex
    refine ⟨xs, ⟨some a, cap, by rw [hxl], by omega, by unfold maxLen'; omega, fun i x h => ?_⟩, ?_⟩
    · obtain ⟨⟨cs', h1, h2⟩, _⟩ := hx i x h
      exact ⟨a, cs', rfl, h1, h2⟩
    · exact (wSl_of xs (elems.map (·.1)) (by simp [hxl, hel]) (fun i x e h1 h2 => (hx i x h1).2 e h2)).le (by simp only [uptoBulk]; omega)
theorem pairR {α β : Type} {a : Kd α} {b : Kd β} {I : Imm} {x : α} {y : β} {cs : List Value} {o n m : Nat} (h0 : a.R I x ((cs.drop o).take n)) (h1 : b.R I y (cs.drop m)) (hm : m = o + n) : (Kd.pair a b).R I (x, y) (cs.drop o) := by
  subst hm
  exact ⟨(cs.drop o).take n, (cs.drop o).drop n, (List.take_append_drop _ _).symm, h0, by rw [List.drop_drop]; exact h1⟩
theorem lastR {α : Type} {a : Kd α} {I : Imm} {x : α} {cs : List Value} {o n : Nat} (h : a.R I x ((cs.drop o).take n)) (hl : cs.length = o + n) : a.R I x (cs.drop o) := by
  rwa [List.take_of_length_le (by rw [List.length_drop]; omega)] at h
def fieldD (P : Program) (T : TypeId) (i : Nat) : Field := (P.fieldsOf T).getD i default
/-- A field of a struct that is read. -/
theorem field_read {α : Type} {H : Type} {enc : TypeId × Value → H} {P : Program} {W : World} {spare : Nat → Bool} {held : Bool} {m : Nat} {T t : TypeId} {d : Kd α} {w : α → Nat → Prop} {cs : List Value} {xs : List (DataW H × List MemPlace)} {x : DataW H × List MemPlace} {i o n : Nat}
    (hf : ∀ (i : Nat) (f : Field), (P.fieldsOf T)[i]? = some f → DataW.trod enc P W 0 spare held m f.type ((cs.drop f.offset).take (P.cellsOf f.type)) = xs[i]?)
    (hx : xs[i]? = some x) (h1 : (P.fieldsOf T)[i]? = some (fieldD P T i)) (h2 : (fieldD P T i).type = t) (h3 : (fieldD P T i).offset = o) (h4 : P.cellsOf t = n) (hr : Reads P t d w) (hb : uptoBulk x.1 ≤ 1048576) : ∃ y, d.R (immOf W) y ((cs.drop o).take n) ∧ w y (uptoBulk x.1) := by
  have := hf i _ h1
  rw [hx, h2, h3, h4] at this
  exact hr this hb
theorem calls_of {P : Program} {f : FuncId} {args : Array Value} {W : World} {b : Value} (h : CallsTo P f args (immOf W) [] (fun v I' L' => v = b ∧ [] = L')) : Calls P f args W fun e W' => e = .returned b ∧ Below W.heap.size W W' :=
  (h W (holds_immOf W)).mono fun e W' ⟨v, I', L', he, hI, hh, hv, _⟩ => ⟨by rw [he, hv], below_of hh hI⟩
end Go.GB

/- Floats that are read. -/
set_option linter.unusedVariables false
set_option linter.unusedSimpArgs false
namespace Go.GB
open Go Go.RowKit
theorem trod_float {H : Type} {enc : TypeId × Value → H} {P : Program} {w : World} {base : Nat} {spare : Nat → Bool} {held : Bool} {fuel : Nat} {t : TypeId} {cs : List Value} {x : DataW H × List MemPlace} {k : FloatKind} (ht : P.underlying t = some (.float k)) (h : DataW.trod enc P w base spare held fuel t cs = some x) :
    ∃ b, cs = [.float k b] ∧ x = (.lit (.float k b), []) ∧ (Lit.float k b).wf = true := by
  cases fuel with
  | zero => simp [DataW.trod] at h
  | succ n =>
    unfold DataW.trod at h
    rw [ht] at h
    split at h <;> simp_all
theorem reads_flt {P : Program} {T : TypeId} (h : P.underlying T = some (.float .f64)) : Reads P T Kd.flt wFlt := fun ht _ => by
  obtain ⟨b, rfl, _, hw⟩ := trod_float h ht
  simp only [Lit.wf, decide_eq_true_eq] at hw
  exact ⟨some b, ⟨b, rfl, rfl⟩, b, rfl, hw⟩
end Go.GB

/- What plain functions come to: a calculus for 'it answers, and its answer is ..'. -/
set_option linter.unusedVariables false
set_option linter.unusedSimpArgs false
namespace Go.GB
theorem wrap_up {i : Nat} (h : i < 4294967296) : IntKind.wrap .i64 ((i : Int) + 1) = ((i + 1 : Nat) : Int) := by rw [wrap64 (by omega) (by omega)]; omega
theorem ix_nat {α : Type} (xs : List α) (i : Nat) : ix xs (i : Int) = xs[i]? := by simp [ix]
theorem size_zero_iff {s : ByteArray} : (s.toList == (⟨#[]⟩ : ByteArray).toList) = decide (s.size = 0) := by
  rw [ByteArray.toList_eq, ByteArray.toList_eq]
  obtain ⟨⟨l⟩⟩ := s
  cases l <;> rfl
theorem toList_inj {a b : ByteArray} : (a.toList == b.toList) = true ↔ a = b := by
  rw [ByteArray.toList_eq, ByteArray.toList_eq]
  obtain ⟨⟨x⟩⟩ := a
  obtain ⟨⟨y⟩⟩ := b
  simp
end Go.GB

/- Plain laws, base: loops that are alike; searches; words of bits. -/
set_option linter.unusedVariables false
set_option linter.unusedSimpArgs false
namespace Go.GB
/-- One round. -/
theorem loopO_step {σ ρ : Type} {b : σ → Option (σ ⊕ ρ)} {s s' : σ} (h : b s = some (.inl s')) : loopO b s = loopO b s' := by rw [loopO_eq, h]; rfl
theorem loopO_done {σ ρ : Type} {b : σ → Option (σ ⊕ ρ)} {s : σ} {r : ρ} (h : b s = some (.inr r)) : loopO b s = some r := by rw [loopO_eq, h]; rfl
/-- A search that goes up: the first place at which there is something to tell. -/
theorem up_find {ρ : Type} {body : Int → Option (Int ⊕ (Unit ⊕ ρ))} {n : Nat} (p : Nat → Option ρ) (h : ∀ i : Nat, i < n → body i = some (match p i with | some r => .inr (.inr r) | none => .inl ((i + 1 : Nat) : Int))) (he : body n = some (.inr (.inl ()))) :
    loopO body 0 = some (match (List.range n).findSome? p with | some r => .inr r | none => .inl ()) := by
  have key : ∀ d i : Nat, i + d = n → loopO body i = some (match (List.range' i d).findSome? p with | some r => .inr r | none => .inl ()) := by
    intro d
    induction d with
    | zero =>
      intro i hi
      have : i = n := by omega
      subst this
      simp [loopO_done he]
    | succ d ih =>
      intro i hi
      have h1 := h i (by omega)
      rw [List.range'_succ, List.findSome?_cons]
      cases hp : p i with
      | some r => rw [hp] at h1; rw [loopO_done h1]
      | none => rw [hp] at h1; rw [loopO_step h1]; exact ih (i + 1) (by omega)
  have := key n 0 (by omega)
  rw [List.range_eq_range']
  exact this
/-- All of a list, by a loop that goes up. -/
theorem up_all {body : Int → Option (Int ⊕ (Unit ⊕ Bool))} {n : Nat} (q : Nat → Bool) (h : ∀ i : Nat, i < n → body i = some (bif q i then .inl ((i + 1 : Nat) : Int) else .inr (.inr false))) (he : body n = some (.inr (.inl ()))) :
    loopO body 0 = some (if (List.range n).all q then .inl () else .inr false) := by
  rw [up_find (fun i => if q i then none else some false) (fun i hi => by rw [h i hi]; cases q i <;> rfl) he]
  congr 1
  by_cases ha : (List.range n).all q = true
  · rw [if_pos ha]
    have : (List.range n).findSome? (fun i => if q i then none else some false) = none := by
      rw [List.findSome?_eq_none_iff]
      intro i hi
      rw [if_pos (List.all_eq_true.1 ha i hi)]
    rw [this]
  · rw [if_neg ha]
    have hx : (List.range n).all q = false := by simpa using ha
    rw [List.all_eq_false] at hx
    obtain ⟨i, hi, hq⟩ := hx
    cases hf : (List.range n).findSome? (fun i => if q i then none else some false) with
    | none =>
      rw [List.findSome?_eq_none_iff] at hf
      have := hf i hi
      rw [if_neg hq] at this; cases this
    | some b =>
      obtain ⟨j, _, hj⟩ := List.exists_of_findSome?_eq_some hf
      split at hj <;> cases hj
      rfl
theorem wrapU8 {x : Int} (h : 0 ≤ x) (h' : x < 256) : IntKind.wrap .u8 x = x := by
  unfold IntKind.wrap
  simp [IntKind.bits, IntKind.signed]
  omega
theorem wrapU64 {x : Int} (h : 0 ≤ x) (h' : x < 18446744073709551616) : IntKind.wrap .u64 x = x := by
  unfold IntKind.wrap
  simp [IntKind.bits, IntKind.signed]
  omega
theorem wrapU8_eq (x : Int) : IntKind.wrap .u8 x = x % 256 := by
  unfold IntKind.wrap
  simp [IntKind.bits, IntKind.signed]
theorem or128 : ∀ c : Fin 256, bitOr .u8 ((c.val : Nat) : Int) 128 = ((c.val % 128 + 128 : Nat) : Int) := by decide +kernel
theorem bx_at {s : ByteArray} {i : Nat} (h : i < s.size) : bx s (i : Int) = some (((s.data.toList.getD i 0).toNat : Nat) : Int) := by
  unfold bx
  rw [if_pos ⟨by omega, by omega⟩]
  unfold byteAt
  rw [Int.toNat_natCast]
  simp [List.getD_eq_getElem?_getD]
theorem size_list (s : ByteArray) : s.data.toList.length = s.size := by rw [Array.length_toList]; rfl
theorem nil_size (s : ByteArray) : (s.toList == (⟨#[]⟩ : ByteArray).toList) = decide (s.size = 0) := size_zero_iff
end Go.GB

/- Plain laws: the document's Utf8 is the library's. -/
set_option linter.unusedVariables false
set_option linter.unusedSimpArgs false
set_option maxRecDepth 100000
namespace Go.Proofs.YtkjkkimnjpodiaaGreatDoor
open Go.GB Go.Lib
/-- The byte at a place, 0 behind the end. -/
def bat (s : ByteArray) (i : Nat) : Nat := (s.data.toList.getD i 0).toNat
theorem bx_bat {s : ByteArray} {i : Nat} (h : i < s.size) : bx s (i : Int) = some ((bat s i : Nat) : Int) := bx_at h
theorem fin_and {P : Nat → Prop} (h : ∀ c : Fin 256, P c.val) {n : Nat} (hn : n < 256) : P n := h ⟨n, hn⟩
theorem valid_eq {s : ByteArray} (hs : s.size < 4611686018427387904) : utf8_ValidString s = some (validD s.data.toList) := by
  unfold utf8_ValidString
  rw [if_pos (by omega)]
end Go.Proofs.YtkjkkimnjpodiaaGreatDoor

/- Plain laws, base: the order of texts. -/
set_option linter.unusedVariables false
set_option linter.unusedSimpArgs false
namespace Go.GB
open Go.Lib
theorem cb_self : ∀ a : List UInt8, compareBytes a a = 0
  | [] => rfl
  | a :: xs => by unfold compareBytes; rw [if_neg (UInt8.lt_irrefl a), if_neg (UInt8.lt_irrefl a)]; exact cb_self xs
theorem cb_swap : ∀ a b : List UInt8, compareBytes b a = - compareBytes a b
  | [], [] => rfl
  | [], _ :: _ => rfl
  | _ :: _, [] => rfl
  | a :: xs, b :: ys => by
    unfold compareBytes
    by_cases h1 : a < b
    · have h2 : ¬ b < a := fun h => UInt8.lt_irrefl a (UInt8.lt_trans h1 h)
      rw [if_pos h1, if_neg h2, if_pos h1]; rfl
    · by_cases h2 : b < a
      · rw [if_pos h2, if_neg h1, if_pos h2]
      · rw [if_neg h2, if_neg h1, if_neg h1, if_neg h2]; exact cb_swap xs ys
theorem u8_eq {a b : UInt8} (h1 : ¬ a < b) (h2 : ¬ b < a) : a = b := UInt8.le_antisymm (UInt8.not_lt.1 h2) (UInt8.not_lt.1 h1)
theorem cb_zero : ∀ a b : List UInt8, compareBytes a b = 0 → a = b
  | [], [], _ => rfl
  | [], _ :: _, h => by simp [compareBytes] at h
  | _ :: _, [], h => by simp [compareBytes] at h
  | a :: xs, b :: ys, h => by
    unfold compareBytes at h
    by_cases h1 : a < b
    · rw [if_pos h1] at h; cases h
    · by_cases h2 : b < a
      · rw [if_neg h1, if_pos h2] at h; cases h
      · rw [if_neg h1, if_neg h2] at h
        rw [cb_zero xs ys h, u8_eq h1 h2]
theorem cb_range : ∀ a b : List UInt8, compareBytes a b = -1 ∨ compareBytes a b = 0 ∨ compareBytes a b = 1
  | [], [] => by simp [compareBytes]
  | [], _ :: _ => by simp [compareBytes]
  | _ :: _, [] => by simp [compareBytes]
  | a :: xs, b :: ys => by
    unfold compareBytes
    split
    · simp
    · split
      · simp
      · exact cb_range xs ys
theorem cb_less : ∀ a b : List UInt8, Op.bytesLess a b = decide (compareBytes a b = -1)
  | [], [] => by simp [compareBytes, Op.bytesLess]
  | [], _ :: _ => by simp [compareBytes, Op.bytesLess]
  | _ :: _, [] => by simp [compareBytes, Op.bytesLess]
  | a :: xs, b :: ys => by
    unfold compareBytes Op.bytesLess
    by_cases h1 : a < b
    · simp [h1]
    · by_cases h2 : b < a
      · have h3 : (a == b) = false := by
          rw [beq_eq_false_iff_ne]; rintro rfl; exact h1 h2
        simp [h1, h2, h3]
      · have h3 := u8_eq h1 h2
        subst h3
        simp [h1, cb_less xs ys]
theorem cb_trans : ∀ a b c : List UInt8, compareBytes a b = -1 → compareBytes b c = -1 → compareBytes a c = -1
  | [], [], _, h, _ => by simp [compareBytes] at h
  | [], _ :: _, [], _, h => by simp [compareBytes] at h
  | [], _ :: _, _ :: _, _, _ => by simp [compareBytes]
  | _ :: _, [], _, h, _ => by simp [compareBytes] at h
  | _ :: _, _ :: _, [], _, h => by simp [compareBytes] at h
  | a :: xs, b :: ys, c :: zs, h, k => by
    unfold compareBytes at h k ⊢
    by_cases h1 : a < b
    · by_cases h3 : b < c
      · rw [if_pos (UInt8.lt_trans h1 h3)]
      · by_cases h4 : c < b
        · rw [if_neg h3, if_pos h4] at k; cases k
        · rw [← u8_eq h3 h4, if_pos h1]
    · by_cases h2 : b < a
      · rw [if_neg h1, if_pos h2] at h; cases h
      · have e := u8_eq h1 h2
        subst e
        rw [if_neg h1, if_neg h1] at h
        by_cases h3 : a < c
        · rw [if_pos h3]
        · by_cases h4 : c < a
          · rw [if_neg h3, if_pos h4] at k; cases k
          · rw [if_neg h3, if_neg h4] at k
            rw [if_neg h3, if_neg h4]
            exact cb_trans xs ys zs h k
def cmpS (a b : ByteArray) : Int := compareBytes a.data.toList b.data.toList
theorem cmpS_self (a : ByteArray) : cmpS a a = 0 := cb_self _
theorem cmpS_swap (a b : ByteArray) : cmpS b a = - cmpS a b := cb_swap _ _
theorem ba_eq {a b : ByteArray} (h : a.data.toList = b.data.toList) : a = b := by
  obtain ⟨⟨x⟩⟩ := a
  obtain ⟨⟨y⟩⟩ := b
  simpa using h
theorem cmpS_zero {a b : ByteArray} (h : cmpS a b = 0) : a = b := ba_eq (cb_zero _ _ h)
theorem cmpS_range (a b : ByteArray) : cmpS a b = -1 ∨ cmpS a b = 0 ∨ cmpS a b = 1 := cb_range _ _
theorem cmpS_trans {a b c : ByteArray} (h : cmpS a b = -1) (k : cmpS b c = -1) : cmpS a c = -1 := cb_trans _ _ _ h k
theorem toList_eq (a : ByteArray) : a.toList = a.data.toList := ByteArray.toList_eq a
theorem less_eq (a b : ByteArray) : Op.bytesLess a.toList b.toList = decide (cmpS a b = -1) := by rw [toList_eq, toList_eq]; exact cb_less _ _
theorem beq_eq (a b : ByteArray) : (a.toList == b.toList) = decide (cmpS a b = 0) := by
  rw [Bool.eq_iff_iff, toList_inj, decide_eq_true_iff]
  exact ⟨fun h => by rw [h]; exact cmpS_self _, cmpS_zero⟩
end Go.GB

/- Plain laws: names, values, label sets: the program's are the document's. -/
set_option linter.unusedVariables false
set_option linter.unusedSimpArgs false
set_option maxRecDepth 100000
namespace Go.Proofs.YtkjkkimnjpodiaaGreatDoor
open Go.GB Go.Lib
theorem ix_bytes {s : ByteArray} {i : Nat} (h : i < s.size) : ix (bytesOf s) (i : Int) = some ((bat s i : Nat) : Int) := by
  rw [ix_nat]
  unfold bytesOf bat
  have : i < s.data.toList.length := by rw [size_list]; exact h
  rw [List.getElem?_map, List.getElem?_eq_getElem this, List.getD_eq_getElem?_getD, List.getElem?_eq_getElem this]
  rfl
noncomputable def namedB (s : ByteArray) (most : Nat) (colon : Bool) : Bool := decide (s.size ≠ 0) && (decide (s.size ≤ most) && (!labels_digit (bat s 0) && (List.range s.size).all fun i => labels_letter (bat s i) || (labels_digit (bat s i) || (colon && ((bat s i : Nat) : Int) == 58))))
theorem named_eq (s : ByteArray) {most : Nat} (hm : most ≤ 2147483648) (colon : Bool) : labels_named s (most : Int) colon = some (namedB s most colon) := by
  unfold labels_named namedB
  rw [nil_size]
  by_cases h0 : s.size = 0
  · simp [h0]
  · by_cases h1 : s.size ≤ most
    · have e1 : decide ((s.size : Int) > (most : Int)) = false := decide_eq_false (by omega)
      have e2 : bx s 0 = some ((bat s 0 : Nat) : Int) := bx_bat (i := 0) (by omega)
      simp only [h0, decide_false, cond_false, e1, e2, Option.bind_some, not_false_eq_true, ne_eq, decide_true, h1, Bool.true_and]
      cases hd : labels_digit ((bat s 0 : Nat) : Int) with
      | true => simp
      | false =>
        have e3 : sb s = some (bytesOf s) := by unfold sb maxLen'; rw [if_pos (by omega)]
        simp only [cond_false, e3, Option.bind_some, Bool.not_false, Bool.true_and]
        rw [up_all (n := s.size) (fun i => labels_letter (bat s i) || (labels_digit (bat s i) || (colon && ((bat s i : Nat) : Int) == 58))) (fun i hi => ?_) ?_]
        · simp only [Option.bind_some]
          cases (List.range s.size).all fun i => labels_letter (bat s i) || (labels_digit (bat s i) || (colon && ((bat s i : Nat) : Int) == 58)) <;> rfl
        · unfold labels_named_l33
          rw [show decide ((s.size : Int) < ((bytesOf s).length : Int)) = false from decide_eq_false (by rw [bytesOf_length]; omega)]
          rfl
        · unfold labels_named_l33
          rw [show decide ((i : Int) < ((bytesOf s).length : Int)) = true from decide_eq_true (by rw [bytesOf_length]; omega)]
          simp only [cond_true, ix_bytes hi, Option.bind_some, wrap_up (show i < 4294967296 by omega)]
          cases labels_letter ((bat s i : Nat) : Int) <;> cases labels_digit ((bat s i : Nat) : Int) <;> cases (colon && ((bat s i : Nat) : Int) == 58) <;> rfl
    · have e1 : decide ((s.size : Int) > (most : Int)) = true := decide_eq_true (by omega)
      simp only [h0, h1, decide_false, decide_true, cond_false, e1, cond_true, Option.bind_some, ne_eq, not_false_eq_true, Bool.false_and, Bool.and_false]
theorem Name_eq (s : ByteArray) : labels_Name s = some (namedB s 64 false) := by
  unfold labels_Name
  rw [show (64 : Int) = ((64 : Nat) : Int) from rfl, named_eq s (by omega) false]
  rfl
noncomputable def valueE (s : ByteArray) : Int := if s.size = 0 then 41 else if s.size > 256 then 4 else if validD s.data.toList then 0 else 12
theorem value_eq (s : ByteArray) : labels_value s = some (valueE s) := by
  unfold labels_value valueE
  rw [nil_size]
  by_cases h0 : s.size = 0
  · simp [h0]
  · by_cases h1 : s.size > 256
    · simp [h0, h1, show decide ((s.size : Int) > 256) = true from decide_eq_true (by omega)]
    · have e1 : decide ((s.size : Int) > 256) = false := decide_eq_false (by omega)
      simp only [h0, decide_false, cond_false, e1, valid_eq (show s.size < 4611686018427387904 by omega), Option.bind_some, if_false, h1]
      cases validD s.data.toList <;> rfl
noncomputable def oneE (x : S76) : Int := if namedB x.f0 64 false then valueE x.f1 else 40
/-- The first fault of a label set, at a place. -/
noncomputable def faultAt (l : List S76) (i : Nat) : Option (Int × Int) := match l[i]? with
  | none => none
  | some x => if oneE x ≠ 0 then some (oneE x, (i : Int)) else if i = 0 then none else match l[i - 1]? with
    | none => none
    | some y => if cmpS y.f0 x.f0 = -1 then none else some (3, (i : Int))
noncomputable def rightE (l : List S76) : Int × Int := if l.length > 16 then (8, 0) else ((List.range l.length).findSome? (faultAt l)).getD (0, 0)
theorem oneE_ne {x : S76} (h : namedB x.f0 64 false = false) : oneE x = 40 := by unfold oneE; rw [h]; rfl
theorem ix_prev {α : Type} {l : List α} {i : Nat} (h0 : 0 < i) (hi : i < 4294967296) : ix l (IntKind.wrap .i64 ((i : Int) - 1)) = l[i - 1]? := by
  rw [wrap64 (by omega) (by omega), show (i : Int) - 1 = ((i - 1 : Nat) : Int) by omega, ix_nat]
theorem Right_eq (l : List S76) : labels_Right l = some (rightE l) := by
  unfold labels_Right rightE
  by_cases hl : l.length > 16
  · simp [hl, show decide ((l.length : Int) > 16) = true from decide_eq_true (by omega)]
  · rw [show decide ((l.length : Int) > 16) = false from decide_eq_false (by omega), if_neg hl]
    simp only [cond_false]
    rw [up_find (n := l.length) (faultAt l) (fun i hi => ?_) ?_]
    · simp only [Option.bind_some]
      cases (List.range l.length).findSome? (faultAt l) <;> rfl
    · unfold labels_Right_l18
      rw [show decide ((l.length : Int) < (l.length : Int)) = false from decide_eq_false (by omega)]
      rfl
    · unfold labels_Right_l18 faultAt
      have hx : l[i]? = some l[i] := List.getElem?_eq_getElem hi
      rw [show decide ((i : Int) < (l.length : Int)) = true from decide_eq_true (by omega)]
      simp only [cond_true, ix_nat, hx, Option.bind_some, Name_eq, value_eq]
      cases hn : namedB l[i].f0 64 false with
      | false => rw [oneE_ne hn]; rfl
      | true =>
        have ho : oneE l[i] = valueE l[i].f1 := by unfold oneE; rw [hn]; rfl
        rw [ho]
        simp only [Bool.not_true, cond_false]
        by_cases hv : valueE l[i].f1 = 0
        · have e2 : (valueE l[i].f1 != 0) = false := by simp [hv]
          rw [if_neg (by simpa using hv)]
          simp only [e2, cond_false, wrap_up (show i < 4294967296 by omega)]
          by_cases hi0 : i = 0
          · subst hi0
            simp
          · have e3 : decide ((i : Int) > 0) = true := decide_eq_true (by omega)
            have hy : l[i - 1]? = some (l[i - 1]'(by omega)) := List.getElem?_eq_getElem (by omega)
            rw [if_neg hi0]
            simp only [e3, cond_true, ix_prev (show 0 < i by omega) (show i < 4294967296 by omega), hy, Option.bind_some, less_eq, beq_eq]
            have hs := cmpS_swap (l[i - 1]'(by omega)).f0 l[i].f0
            have hr := cmpS_range (l[i - 1]'(by omega)).f0 l[i].f0
            by_cases hc : cmpS (l[i - 1]'(by omega)).f0 l[i].f0 = -1
            · rw [if_pos hc]
              have : (decide (cmpS l[i].f0 (l[i - 1]'(by omega)).f0 = -1) || decide (cmpS l[i].f0 (l[i - 1]'(by omega)).f0 = 0)) = false := by
                rw [Bool.eq_false_iff]; simp only [ne_eq, Bool.or_eq_true, decide_eq_true_eq]; omega
              rw [this]; rfl
            · rw [if_neg hc]
              have : (decide (cmpS l[i].f0 (l[i - 1]'(by omega)).f0 = -1) || decide (cmpS l[i].f0 (l[i - 1]'(by omega)).f0 = 0)) = true := by
                simp only [Bool.or_eq_true, decide_eq_true_eq]; omega
              rw [this]; rfl
        · have e2 : (valueE l[i].f1 != 0) = true := by simpa using hv
          rw [if_pos hv]
          simp only [e2, cond_true]
end Go.Proofs.YtkjkkimnjpodiaaGreatDoor

/- Plain laws, base: words of bits; numbers in few bytes. -/
set_option linter.unusedVariables false
set_option linter.unusedSimpArgs false
namespace Go.GB
theorem shr_nat (k : IntKind) (a n : Nat) (hn : n ≤ k.bits) : shr k (a : Int) (n : Int) = ((a / 2 ^ n : Nat) : Int) := by
  unfold shr
  rw [Int.toNat_natCast, Nat.min_eq_left hn, Int.fdiv_eq_ediv_of_nonneg _ (by exact Int.pow_nonneg (by omega))]
  norm_cast
def uvF : Nat → Nat → List Int
  | 0, _ => []
  | f + 1, n => if n < 128 then [(n : Int)] else ((n % 128 + 128 : Nat) : Int) :: uvF f (n / 128)
/-- A number in few bytes. -/
def uv (n : Nat) : List Int := uvF 10 n
theorem uvF_len : ∀ f n : Nat, (uvF f n).length ≤ f
  | 0, _ => by simp [uvF]
  | f + 1, n => by
    unfold uvF
    split
    · simp
    · have := uvF_len f (n / 128); simp; omega
theorem uv_len (n : Nat) : (uv n).length ≤ 10 := uvF_len 10 n
/-- A loop that lays a number's bytes. -/
theorem putu_loop {body : Int × List Int → Option ((Int × List Int) ⊕ (Int × List Int))} (h : ∀ (n : Nat) (acc : List Int), n < 18446744073709551616 → body ((n : Int), acc) = if n < 128 then some (.inr ((n : Int), acc)) else Option.bind (app acc [((n % 128 + 128 : Nat) : Int)]) fun z => some (.inl (((n / 128 : Nat) : Int), z))) :
    ∀ (f n : Nat) (acc : List Int), n < 128 ^ f → n < 18446744073709551616 → acc.length + f ≤ 2147483648 → 0 < f → ∃ (m : Nat) (acc' : List Int), m < 128 ∧ loopO body ((n : Int), acc) = some ((m : Int), acc') ∧ acc' ++ [(m : Int)] = acc ++ uvF f n ∧ acc'.length + 1 ≤ acc.length + f := by
  intro f
  induction f with
  | zero => intro n acc _ _ _ h0; omega
  | succ f ih =>
    intro n acc hn hn2 hl _
    have hb := h n acc hn2
    by_cases hlt : n < 128
    · rw [if_pos hlt] at hb
      exact ⟨n, acc, hlt, loopO_done hb, by unfold uvF; rw [if_pos hlt], by omega⟩
    · rw [if_neg hlt] at hb
      have ha : app acc [((n % 128 + 128 : Nat) : Int)] = some (acc ++ [((n % 128 + 128 : Nat) : Int)]) := by unfold app maxLen'; rw [if_pos (by simp; omega)]
      rw [ha, Option.bind_some] at hb
      have hf : 0 < f := by
        rcases Nat.eq_zero_or_pos f with rfl | h0
        · simp at hn; omega
        · exact h0
      obtain ⟨m, acc', h1, h2, h3, h4⟩ := ih (n / 128) (acc ++ [((n % 128 + 128 : Nat) : Int)]) (by rw [Nat.pow_succ] at hn; omega) (by omega) (by simp; omega) hf
      refine ⟨m, acc', h1, by rw [loopO_step hb]; exact h2, ?_, by simp at h4; omega⟩
      rw [h3]
      conv => rhs; unfold uvF
      rw [if_neg hlt]; simp
theorem app_eq {α : Type} {xs ys : List α} (h : xs.length + ys.length ≤ 2147483648) : app xs ys = some (xs ++ ys) := by unfold app maxLen'; rw [if_pos (by simpa using h)]
theorem sb_eq {s : ByteArray} (h : s.size ≤ 2147483648) : sb s = some (bytesOf s) := by unfold sb maxLen'; rw [if_pos h]
end Go.GB

/- Stable sorting: what is a stable sort of a list, and that there is one alone. -/
set_option linter.unusedVariables false
set_option linter.unusedSimpArgs false
namespace Go.GB
section
variable {α : Type}
/-- A strict weak order. -/
structure Swo (lt : α → α → Bool) : Prop where
  asymm : ∀ a b, lt a b = true → lt b a = false
  trans : ∀ a b c, lt b a = false → lt c b = false → lt c a = false
variable {lt : α → α → Bool}
theorem Swo.irrefl (h : Swo lt) (a : α) : lt a a = false := by
  cases e : lt a a with
  | false => rfl
  | true => have := h.asymm a a e; rw [e] at this; exact this
def eqv (lt : α → α → Bool) (k x : α) : Bool := !lt k x && !lt x k
theorem eqv_iff {k x : α} : eqv lt k x = true ↔ lt k x = false ∧ lt x k = false := by simp [eqv]
theorem Swo.eqv_self (h : Swo lt) (a : α) : eqv lt a a = true := by simp [eqv, h.irrefl]
def Sorted (lt : α → α → Bool) (l : List α) : Prop := l.Pairwise fun a b => lt b a = false
def FE (lt : α → α → Bool) (l m : List α) : Prop := ∀ k, l.filter (eqv lt k) = m.filter (eqv lt k)
theorem FE.refl (l : List α) : FE lt l l := fun _ => rfl
theorem FE.symm {l m : List α} (h : FE lt l m) : FE lt m l := fun k => (h k).symm
theorem FE.trans {l m n : List α} (h : FE lt l m) (h' : FE lt m n) : FE lt l n := fun k => (h k).trans (h' k)
theorem FE.append {l m l' m' : List α} (h : FE lt l m) (h' : FE lt l' m') : FE lt (l ++ l') (m ++ m') := fun k => by rw [List.filter_append, List.filter_append, h k, h' k]
theorem FE.mem (hs : Swo lt) {l m : List α} (h : FE lt l m) {x : α} (hx : x ∈ l) : x ∈ m := by
  have : x ∈ l.filter (eqv lt x) := List.mem_filter.2 ⟨hx, hs.eqv_self x⟩
  rw [h x] at this
  exact (List.mem_filter.1 this).1
/-- Two parts of which one stands all below the other change places. -/
theorem FE.swap (hs : Swo lt) {X Y : List α} (h : ∀ x ∈ X, ∀ y ∈ Y, lt y x = true) : FE lt (X ++ Y) (Y ++ X) := fun k => by
  rw [List.filter_append, List.filter_append]
  by_cases hx : X.filter (eqv lt k) = []
  · rw [hx]; simp
  · have hy : Y.filter (eqv lt k) = [] := by
      rw [List.filter_eq_nil_iff]
      intro y hy hk
      obtain ⟨x, hx'⟩ := List.exists_mem_of_ne_nil _ hx
      obtain ⟨hxX, hxk⟩ := List.mem_filter.1 hx'
      have h1 := h x hxX y hy
      have h2 := hs.trans x k y (eqv_iff.1 hxk).1 (eqv_iff.1 hk).2
      rw [h1] at h2; cases h2
    rw [hy]; simp
/-- m is l, stably sorted. -/
def StS (lt : α → α → Bool) (l m : List α) : Prop := FE lt m l ∧ Sorted lt m
theorem FE.length (hs : Swo lt) : ∀ (n : Nat) {a b : List α}, a.length = n → FE lt a b → b.length = n
  | 0, a, b, hn, h => by
    cases b with
    | nil => rfl
    | cons y b => have := h.symm.mem hs (x := y) (by simp); rw [List.length_eq_zero_iff.1 hn] at this; cases this
  | n + 1, a, b, hn, h => by
    cases a with
    | nil => cases hn
    | cons x a =>
      have hx := h.mem hs (x := x) (by simp)
      have hne : b.filter (eqv lt x) ≠ [] := fun e => by
        have : x ∈ b.filter (eqv lt x) := List.mem_filter.2 ⟨hx, hs.eqv_self x⟩
        rw [e] at this; cases this
      -- the first of x's class in b is x
      have e1 := h x
      rw [List.filter_cons_of_pos (hs.eqv_self x)] at e1
      obtain ⟨b1, b2, hb, hb1⟩ : ∃ b1 b2, b = b1 ++ x :: b2 ∧ ∀ z ∈ b1, eqv lt x z = false := by
        clear hn h hx hne
        induction b with
        | nil => cases e1
        | cons z b ih =>
          by_cases hz : eqv lt x z = true
          · rw [List.filter_cons_of_pos hz] at e1
            simp only [List.cons.injEq] at e1
            obtain ⟨rfl, _⟩ := e1
            exact ⟨[], b, rfl, fun z hz => by cases hz⟩
          · rw [List.filter_cons_of_neg hz] at e1
            obtain ⟨b1, b2, rfl, h1⟩ := ih e1
            exact ⟨z :: b1, b2, rfl, fun w hw => by
              rcases List.mem_cons.1 hw with rfl | hw
              · simpa using hz
              · exact h1 w hw⟩
      have h2 : FE lt a (b1 ++ b2) := fun k => by
        have e2 := h k
        rw [hb, List.filter_append] at e2
        rw [List.filter_append]
        by_cases hk : eqv lt k x = true
        · rw [List.filter_cons_of_pos hk, List.filter_cons_of_pos hk] at e2
          have h0 : b1.filter (eqv lt k) = [] := by
            rw [List.filter_eq_nil_iff]
            intro z hz hkz
            have h1 := hb1 z hz
            have h3 := eqv_iff.1 hk
            have h4 := eqv_iff.1 hkz
            have : eqv lt x z = true := eqv_iff.2 ⟨hs.trans z k x h4.1 h3.2, hs.trans x k z h3.1 h4.2⟩
            rw [this] at h1; cases h1
          rw [h0] at e2 ⊢
          simpa using e2
        · rw [List.filter_cons_of_neg hk, List.filter_cons_of_neg hk] at e2
          exact e2
      have := FE.length hs n (by simpa using hn) h2
      rw [hb]; simp at this ⊢; omega
end
end Go.GB

/- Stable sorting: the library's swaps, rotations and binary searches. -/
set_option linter.unusedVariables false
set_option linter.unusedSimpArgs false
namespace Go.GB
section
variable {α : Type} {cf : α → α → Int}
end
end Go.GB

/- Stable sorting: the library's insertion sort and merge. -/
set_option linter.unusedVariables false
set_option linter.unusedSimpArgs false
namespace Go.GB
section
variable {α : Type} {lt : α → α → Bool}
theorem Sorted.last {A : List α} {z : α} (h : Sorted lt (A ++ [z])) : ∀ a ∈ A, lt z a = false := fun a ha => (List.pairwise_append.1 h).2.2 a ha z (by simp)
theorem Sorted.head {B : List α} {y : α} (h : Sorted lt (y :: B)) : ∀ b ∈ B, lt b y = false := (List.pairwise_cons.1 h).1
theorem Sorted.left {A B : List α} (h : Sorted lt (A ++ B)) : Sorted lt A := (List.pairwise_append.1 h).1
theorem Sorted.right {A B : List α} (h : Sorted lt (A ++ B)) : Sorted lt B := (List.pairwise_append.1 h).2.1
theorem Sorted.append {A B : List α} (h : Sorted lt A) (h' : Sorted lt B) (hc : ∀ a ∈ A, ∀ b ∈ B, lt b a = false) : Sorted lt (A ++ B) := List.pairwise_append.2 ⟨h, h', hc⟩
theorem StS.self {A : List α} (h : Sorted lt A) : StS lt A A := ⟨FE.refl A, h⟩
end
section
variable {α : Type} {cf : α → α → Int}
end
end Go.GB

/- Stable sorting: the library's merge in place. -/
set_option linter.unusedVariables false
set_option linter.unusedSimpArgs false
namespace Go.GB
section
variable {α : Type} {cf : α → α → Int}
end
end Go.GB

/- Stable sorting: the whole of it. -/
set_option linter.unusedVariables false
set_option linter.unusedSimpArgs false
namespace Go.GB
section
variable {α : Type}
/-- Full runs of k elements, each sorted. -/
inductive Full (lt : α → α → Bool) (k : Nat) : List α → Prop
  | nil : Full lt k []
  | snoc {D x : List α} : Full lt k D → x.length = k → Sorted lt x → Full lt k (D ++ x)
/-- Runs of k elements, the last one may be shorter. -/
inductive Runs (lt : α → α → Bool) (k : Nat) : List α → Prop
  | last {x : List α} : x.length ≤ k → Sorted lt x → Runs lt k x
  | cons {x R : List α} : x.length = k → Sorted lt x → Runs lt k R → Runs lt k (x ++ R)
variable {lt : α → α → Bool} {k : Nat}
theorem Runs.sorted {R : List α} (h : Runs lt k R) (hk : R.length ≤ k) (hk0 : 0 < k) : Sorted lt R := by
  cases h with
  | last h1 h2 => exact h2
  | @cons x R h1 h2 h3 =>
    rw [List.length_append] at hk
    have : R = [] := List.length_eq_zero_iff.1 (by omega)
    rw [this, List.append_nil]; exact h2
theorem Runs.one {R : List α} (h : Runs lt k R) (h1 : k < R.length) (h2 : R.length < k + k) : ∃ x y, R = x ++ y ∧ x.length = k ∧ Sorted lt x ∧ Sorted lt y := by
  cases h with
  | last h3 h4 => omega
  | @cons x R h3 h4 h5 =>
    rw [List.length_append] at h1 h2
    exact ⟨x, R, rfl, h3, h4, h5.sorted (by omega) (by omega)⟩
end
section
variable {α : Type} {cf : α → α → Int}
end
end Go.GB

/- Plain laws of chapter 4: lists alike, lists that are gathered, label sets that are sorted. -/
set_option linter.unusedVariables false
set_option linter.unusedSimpArgs false
set_option maxRecDepth 100000
namespace Go.Proofs.YtkjkkimnjpodiaaGreatDoor
open Go.GB Go.Lib
abbrev LB := S76
/-- A loop over a list that gathers. -/
theorem fold_up {α β ρ : Type} {body : β × Int → Option ((β × Int) ⊕ ρ)} (l : List α) (f : β → α → β) (g : β → ρ) (Inv : β → Nat → Prop)
    (h : ∀ (acc : β) (i : Nat) (hi : i < l.length), Inv acc i → body (acc, (i : Int)) = some (.inl (f acc l[i], ((i + 1 : Nat) : Int))) ∧ Inv (f acc l[i]) (i + 1))
    (he : ∀ acc, Inv acc l.length → body (acc, (l.length : Int)) = some (.inr (g acc))) :
    ∀ (d i : Nat) (acc : β), l.length - i = d → i ≤ l.length → Inv acc i → loopO body (acc, (i : Int)) = some (g ((l.drop i).foldl f acc)) := by
  intro d
  induction d with
  | zero =>
    intro i acc hd hi hI
    obtain rfl : i = l.length := by omega
    rw [List.drop_length]
    exact loopO_done (he acc hI)
  | succ d ih =>
    intro i acc hd hi hI
    have hlt : i < l.length := by omega
    obtain ⟨h1, h2⟩ := h acc i hlt hI
    rw [List.drop_eq_getElem_cons hlt, List.foldl_cons, loopO_step h1]
    exact ih (i + 1) _ (by omega) (by omega) h2
theorem fold_filter {α : Type} (p : α → Bool) : ∀ (l acc : List α), l.foldl (fun acc x => bif p x then acc ++ [x] else acc) acc = acc ++ l.filter p
  | [], acc => by simp
  | x :: l, acc => by
    rw [List.foldl_cons, fold_filter p l]
    cases h : p x <;> simp [h]
/-- A loop that gathers those of a kind. -/
theorem filter_up {α ρ : Type} {body : List α × Int → Option ((List α × Int) ⊕ ρ)} (l : List α) (p : α → Bool) (g : List α → ρ) (hl : l.length ≤ 2147483648)
    (h : ∀ (acc : List α) (i : Nat) (hi : i < l.length), acc.length ≤ i → body (acc, (i : Int)) = some (.inl ((bif p l[i] then acc ++ [l[i]] else acc), ((i + 1 : Nat) : Int))))
    (he : ∀ acc, body (acc, (l.length : Int)) = some (.inr (g acc))) : loopO body ([], 0) = some (g (l.filter p)) := by
  have := fold_up (body := body) l (fun acc x => bif p x then acc ++ [x] else acc) g (fun acc i => acc.length ≤ i) (fun acc i hi hI => ⟨h acc i hi hI, by cases p l[i] <;> simp <;> omega⟩) (fun acc _ => he acc) l.length 0 [] (by omega) (by omega) (by simp)
  rw [List.drop_zero, fold_filter, List.nil_append] at this
  exact this
/-- Is there one of a kind? -/
theorem up_any {ρ : Type} {body : Int → Option (Int ⊕ (Unit ⊕ ρ))} {n : Nat} (q : Nat → Bool) (v : ρ) (h : ∀ i : Nat, i < n → body i = some (bif q i then .inr (.inr v) else .inl ((i + 1 : Nat) : Int))) (he : body n = some (.inr (.inl ()))) :
    loopO body 0 = some (bif (List.range n).any q then .inr v else .inl ()) := by
  rw [up_find (fun i => if q i then some v else none) (fun i hi => by rw [h i hi]; cases q i <;> rfl) he]
  congr 1
  cases ha : (List.range n).any q with
  | true =>
    obtain ⟨i, hi, hq⟩ := List.any_eq_true.1 ha
    cases hf : (List.range n).findSome? (fun i => if q i then some v else none) with
    | none =>
      rw [List.findSome?_eq_none_iff] at hf
      have := hf i hi
      rw [if_pos hq] at this; cases this
    | some b =>
      obtain ⟨j, _, hj⟩ := List.exists_of_findSome?_eq_some hf
      split at hj
      · cases hj; rfl
      · cases hj
  | false =>
    rw [List.any_eq_false] at ha
    have : (List.range n).findSome? (fun i => if q i then some v else none) = none := by
      rw [List.findSome?_eq_none_iff]
      intro i hi
      rw [if_neg (ha i hi)]
    rw [this]; rfl
theorem any_range {α : Type} (l : List α) (f : α → Bool) : ((List.range l.length).any fun i => (l[i]?).any f) = l.any f := by
  rw [Bool.eq_iff_iff, List.any_eq_true, List.any_eq_true]
  constructor
  · rintro ⟨i, hi, h⟩
    have hi' := List.mem_range.1 hi
    rw [List.getElem?_eq_getElem hi', Option.any_some] at h
    exact ⟨l[i], List.getElem_mem hi', h⟩
  · rintro ⟨x, hx, h⟩
    obtain ⟨i, hi, rfl⟩ := List.getElem_of_mem hx
    exact ⟨i, List.mem_range.2 hi, by rw [List.getElem?_eq_getElem hi, Option.any_some]; exact h⟩
end Go.Proofs.YtkjkkimnjpodiaaGreatDoor

/- Plain laws: what a right label set is made of. -/
set_option linter.unusedVariables false
set_option linter.unusedSimpArgs false
set_option maxRecDepth 100000
namespace Go.Proofs.YtkjkkimnjpodiaaGreatDoor
open Go.GB Go.Lib
theorem faultAt_ne {l : List S76} {i : Nat} {v : Int × Int} (h : faultAt l i = some v) : v.1 ≠ 0 := by
  unfold faultAt at h
  split at h
  · cases h
  · rename_i x _
    by_cases h1 : oneE x ≠ 0
    · rw [if_pos h1] at h; cases h; exact h1
    · rw [if_neg h1] at h
      split at h
      · cases h
      · split at h
        · cases h
        · split at h
          · cases h
          · cases h; show (3 : Int) ≠ 0; decide
theorem right_none {l : List S76} (h : (rightE l).1 = 0) : l.length ≤ 16 ∧ ∀ i, i < l.length → faultAt l i = none := by
  unfold rightE at h
  split at h
  · cases h
  · refine ⟨by omega, fun i hi => ?_⟩
    cases hf : (List.range l.length).findSome? (faultAt l) with
    | some v =>
      rw [hf] at h
      obtain ⟨j, _, hj⟩ := List.exists_of_findSome?_eq_some hf
      exact absurd h (faultAt_ne hj)
    | none => rw [List.findSome?_eq_none_iff] at hf; exact hf i (List.mem_range.2 hi)
theorem one_parts {x : S76} (h : oneE x = 0) : namedB x.f0 64 false = true ∧ x.f1.size ≠ 0 ∧ x.f1.size ≤ 256 ∧ validD x.f1.data.toList = true := by
  unfold oneE at h
  cases hn : namedB x.f0 64 false with
  | false => rw [hn] at h; cases h
  | true =>
    rw [hn] at h
    simp only [if_true] at h
    unfold valueE at h
    by_cases h0 : x.f1.size = 0
    · rw [if_pos h0] at h; cases h
    · rw [if_neg h0] at h
      by_cases h1 : x.f1.size > 256
      · rw [if_pos h1] at h; cases h
      · rw [if_neg h1] at h
        cases hv : validD x.f1.data.toList with
        | false => rw [hv] at h; cases h
        | true => exact ⟨rfl, h0, by omega, rfl⟩
theorem named_valid {s : ByteArray} {most : Nat} {c : Bool} (h : namedB s most c = true) : s.size ≤ most ∧ s.size ≠ 0 ∧ validD s.data.toList = true := by
  unfold namedB at h
  simp only [Bool.and_eq_true, decide_eq_true_eq, List.all_eq_true, Bool.not_eq_true'] at h
  obtain ⟨h0, h1, _, h2⟩ := h
  refine ⟨h1, h0, ?_⟩
  have := validD_ascii s.data.toList.length s.data.toList (fun b hb => by
    rw [List.take_length] at hb
    obtain ⟨i, hi, rfl⟩ := List.getElem_of_mem hb
    have h3 := h2 i (List.mem_range.2 (by rw [← size_list]; exact hi))
    have e : bat s i = (s.data.toList[i]).toNat := by
      unfold bat
      rw [List.getD_eq_getElem?_getD, List.getElem?_eq_getElem hi]; rfl
    rw [e] at h3
    unfold labels_letter labels_digit at h3
    simp only [Bool.or_eq_true, Bool.and_eq_true, decide_eq_true_eq, beq_iff_eq] at h3
    omega)
  rw [this, List.drop_length]
  rfl
theorem right_parts {l : List S76} (h : (rightE l).1 = 0) : l.length ≤ 16 ∧ ∀ x ∈ l, oneE x = 0 := by
  obtain ⟨h1, h2⟩ := right_none h
  refine ⟨h1, fun x hx => ?_⟩
  obtain ⟨i, hi, rfl⟩ := List.getElem_of_mem hx
  have := h2 i hi
  unfold faultAt at this
  rw [List.getElem?_eq_getElem hi] at this
  simp only at this
  by_cases h0 : oneE l[i] ≠ 0
  · rw [if_pos h0] at this; cases this
  · simpa using h0
end Go.Proofs.YtkjkkimnjpodiaaGreatDoor

/- Plain laws: labels whose names are among some: Keep, Without, Pick. -/
set_option linter.unusedVariables false
set_option linter.unusedSimpArgs false
set_option maxRecDepth 100000
namespace Go.Proofs.YtkjkkimnjpodiaaGreatDoor
open Go.GB Go.Lib
theorem right_eq (l : List LB) : labels_right l = some (rightE l).1 := by unfold labels_right; rw [Right_eq]; rfl
/-- The labels whose names are, are not, among some. -/
def hasB (names : List ByteArray) (s : ByteArray) : Bool := names.any fun x => (x.toList == s.toList)
theorem Contains_eq (names : List ByteArray) (s : ByteArray) (hn : names.length < 2147483648) : slices_Contains names s = some (hasB names s) := by
  unfold slices_Contains slices_Index hasB
  rw [up_find (n := names.length) (fun j => match names[j]? with | some y => if (s.toList == y.toList) = true then some (j : Int) else none | none => none) (fun j hj => ?_) ?_]
  · simp only [Option.bind_some]
    cases hf : (List.range names.length).findSome? (fun j => match names[j]? with | some y => if (s.toList == y.toList) = true then some (j : Int) else none | none => none) with
    | none =>
      rw [List.findSome?_eq_none_iff] at hf
      rw [show (names.any fun x => (x.toList == s.toList)) = false from by
        rw [List.any_eq_false]
        intro x hx
        obtain ⟨j, hj, rfl⟩ := List.getElem_of_mem hx
        have := hf j (List.mem_range.2 hj)
        rw [List.getElem?_eq_getElem hj] at this
        simp only at this
        split at this
        · cases this
        · rename_i h; intro e; exact h (toList_inj.2 (toList_inj.1 e).symm)]
      rfl
    | some b =>
      obtain ⟨j, hj, hjb⟩ := List.exists_of_findSome?_eq_some hf
      have hj' := List.mem_range.1 hj
      rw [List.getElem?_eq_getElem hj'] at hjb
      simp only at hjb
      split at hjb <;> try (cases hjb; done)
      rename_i h
      simp only [Option.some.injEq] at hjb
      subst hjb
      rw [show (names.any fun x => (x.toList == s.toList)) = true from List.any_eq_true.2 ⟨names[j], List.getElem_mem hj', toList_inj.2 (toList_inj.1 h).symm⟩]
      simp
  · unfold slices_Index_l17
    rw [show decide ((names.length : Int) < (names.length : Int)) = false from decide_eq_false (by omega)]; rfl
  · unfold slices_Index_l17
    rw [show decide ((j : Int) < (names.length : Int)) = true from decide_eq_true (by omega)]
    simp only [cond_true, ix_nat, List.getElem?_eq_getElem hj, Option.bind_some, wrap_up (show j < 4294967296 by omega)]
    cases (s.toList == names[j].toList) <;> rfl
theorem pick_eq (l : List LB) (b : Bool) (names : List ByteArray) (hl : l.length < 2147483648) (hn : names.length < 2147483648) : labels_pick l b names = some (l.filter fun x => (hasB names x.f0 == b)) := by
  unfold labels_pick
  rw [filter_up l (fun x => (hasB names x.f0 == b)) id (by omega) (fun acc i hi ha => ?_) (fun acc => ?_)]
  · rfl
  · unfold labels_pick_l28
    rw [show decide ((i : Int) < (l.length : Int)) = true from decide_eq_true (by omega)]
    simp only [cond_true, ix_nat, List.getElem?_eq_getElem hi, Option.bind_some, wrap_up (show i < 4294967296 by omega), Contains_eq names _ hn]
    rw [app_eq (by simp; omega)]
    cases (hasB names l[i].f0 == b) <;> rfl
  · unfold labels_pick_l28
    rw [show decide ((l.length : Int) < (l.length : Int)) = false from decide_eq_false (by omega)]; rfl
/-- What Keep and Without answer. -/
noncomputable def keepE (l : List LB) (names : List ByteArray) (b : Bool) : List LB × Int := bif (rightE l).1 != 0 then ([], (rightE l).1) else (l.filter fun x => (hasB names x.f0 == b), 0)
theorem Without_eq (l : List LB) (names : List ByteArray) (hl : l.length < 2147483640) (hn : names.length < 2147483640) : labels_Without l names = some (keepE l names false) := by
  unfold labels_Without keepE
  simp only [right_eq, Option.bind_some, pick_eq l false names (by omega) (by omega)]
  cases (rightE l).1 != 0 <;> rfl
theorem Keep_eq (l : List LB) (names : List ByteArray) (hl : l.length < 2147483640) (hn : names.length < 2147483640) : labels_Keep l names = some (keepE l names true) := by
  unfold labels_Keep keepE
  simp only [right_eq, Option.bind_some, pick_eq l true names (by omega) (by omega)]
  cases (rightE l).1 != 0 <;> rfl
theorem keepE_right {l : List LB} (h : (rightE l).1 = 0) (names : List ByteArray) (b : Bool) : keepE l names b = (l.filter fun x => (hasB names x.f0 == b), 0) := by
  unfold keepE
  rw [h]; rfl
end Go.Proofs.YtkjkkimnjpodiaaGreatDoor

/- Plain laws: label sets compared. -/
set_option linter.unusedVariables false
set_option linter.unusedSimpArgs false
set_option maxRecDepth 100000
namespace Go.Proofs.YtkjkkimnjpodiaaGreatDoor
open Go.GB Go.Lib
def cmpX (x y : S76) : Int := if cmpS x.f0 y.f0 ≠ 0 then cmpS x.f0 y.f0 else cmpS x.f1 y.f1
def cmpL : List S76 → List S76 → Int
  | [], [] => 0
  | [], _ :: _ => -1
  | _ :: _, [] => 1
  | x :: xs, y :: ys => if cmpX x y ≠ 0 then cmpX x y else cmpL xs ys
theorem strCmp_eq (a b : ByteArray) : strings_Compare a b = cmpS a b := rfl
theorem side_eq (a b : ByteArray) : tocsinref04_side a b = cmpS a b := by
  unfold tocsinref04_side
  rw [less_eq, beq_eq]
  rcases cmpS_range a b with h | h | h <;> rw [h] <;> rfl
theorem cmp1_eq (x y : S76) : labels_Compare_1 x y = cmpX x y := by
  unfold labels_Compare_1 cmpX
  rw [strCmp_eq, strCmp_eq]
  by_cases h : cmpS x.f0 y.f0 = 0
  · rw [if_neg (by simpa using h), show (cmpS x.f0 y.f0 != 0) = false by simp [h]]; rfl
  · rw [if_pos h, show (cmpS x.f0 y.f0 != 0) = true by simpa using h]; rfl
theorem cmpX_range (x y : S76) : cmpX x y = -1 ∨ cmpX x y = 0 ∨ cmpX x y = 1 := by unfold cmpX; split <;> exact cmpS_range _ _
theorem cmpX_self (x : S76) : cmpX x x = 0 := by unfold cmpX; rw [cmpS_self, cmpS_self]; rfl
theorem cmpX_swap (x y : S76) : cmpX y x = - cmpX x y := by
  unfold cmpX
  rw [cmpS_swap x.f0 y.f0, cmpS_swap x.f1 y.f1]
  by_cases h : cmpS x.f0 y.f0 = 0
  · rw [if_neg (by simp [h]), if_neg (by simp [h])]
  · rw [if_pos (by simp [h]), if_pos h]
theorem cmpX_zero {x y : S76} (h : cmpX x y = 0) : x = y := by
  unfold cmpX at h
  obtain ⟨x0, x1⟩ := x
  obtain ⟨y0, y1⟩ := y
  by_cases h1 : cmpS x0 y0 = 0
  · rw [if_neg (by simpa using h1)] at h
    have e1 : x0 = y0 := cmpS_zero h1
    have e2 : x1 = y1 := cmpS_zero h
    rw [e1, e2]
  · rw [if_pos h1] at h; exact absurd h h1
theorem cmpX_trans {x y z : S76} (h : cmpX x y = -1) (k : cmpX y z = -1) : cmpX x z = -1 := by
  unfold cmpX at h k ⊢
  by_cases h1 : cmpS x.f0 y.f0 = 0
  · rw [if_neg (by simpa using h1)] at h
    have e := cmpS_zero h1
    rw [e]
    by_cases h2 : cmpS y.f0 z.f0 = 0
    · rw [if_neg (by simpa using h2)] at k ⊢
      exact cmpS_trans h k
    · rw [if_pos h2] at k ⊢; exact k
  · rw [if_pos h1] at h
    by_cases h2 : cmpS y.f0 z.f0 = 0
    · have e := cmpS_zero h2
      rw [← e, if_pos h1]; exact h
    · rw [if_pos h2] at k
      have := cmpS_trans h k
      rw [if_pos (by omega)]; exact this
theorem cmpL_range : ∀ a b : List S76, cmpL a b = -1 ∨ cmpL a b = 0 ∨ cmpL a b = 1
  | [], [] => by simp [cmpL]
  | [], _ :: _ => by simp [cmpL]
  | _ :: _, [] => by simp [cmpL]
  | x :: xs, y :: ys => by
    unfold cmpL
    split
    · exact cmpX_range _ _
    · exact cmpL_range xs ys
theorem cmpL_self : ∀ a : List S76, cmpL a a = 0
  | [] => rfl
  | x :: xs => by unfold cmpL; rw [if_neg (by simp [cmpX_self])]; exact cmpL_self xs
theorem cmpL_swap : ∀ a b : List S76, cmpL b a = - cmpL a b
  | [], [] => rfl
  | [], _ :: _ => rfl
  | _ :: _, [] => rfl
  | x :: xs, y :: ys => by
    unfold cmpL
    rw [cmpX_swap x y]
    by_cases h : cmpX x y = 0
    · rw [if_neg (by simp [h]), if_neg (by simp [h])]; exact cmpL_swap xs ys
    · rw [if_pos (by simp [h]), if_pos h]
theorem cmpL_zero : ∀ {a b : List S76}, cmpL a b = 0 → a = b
  | [], [], _ => rfl
  | [], _ :: _, h => by simp [cmpL] at h
  | _ :: _, [], h => by simp [cmpL] at h
  | x :: xs, y :: ys, h => by
    unfold cmpL at h
    by_cases h1 : cmpX x y = 0
    · rw [if_neg (by simpa using h1)] at h
      rw [cmpX_zero h1, cmpL_zero h]
    · rw [if_pos h1] at h; exact absurd h h1
theorem cmpL_trans : ∀ {a b c : List S76}, cmpL a b = -1 → cmpL b c = -1 → cmpL a c = -1
  | [], [], _, h, _ => by simp [cmpL] at h
  | [], _ :: _, [], _, h => by simp [cmpL] at h
  | [], _ :: _, _ :: _, _, _ => rfl
  | _ :: _, [], _, h, _ => by simp [cmpL] at h
  | _ :: _, _ :: _, [], _, h => by simp [cmpL] at h
  | x :: xs, y :: ys, z :: zs, h, k => by
    unfold cmpL at h k ⊢
    by_cases h1 : cmpX x y = 0
    · have e := cmpX_zero h1
      rw [if_neg (by simpa using h1)] at h
      rw [e]
      by_cases h2 : cmpX y z = 0
      · rw [if_neg (by simpa using h2)] at k ⊢
        exact cmpL_trans h k
      · rw [if_pos h2] at k ⊢; exact k
    · rw [if_pos h1] at h
      by_cases h2 : cmpX y z = 0
      · rw [← cmpX_zero h2, if_pos h1]; exact h
      · rw [if_pos h2] at k
        have := cmpX_trans h k
        rw [if_pos (by omega)]; exact this
/-- What a loop over both finds. -/
theorem compare_eq (a b : List S76) (ha : a.length ≤ 2147483648) : labels_Compare a b = some (cmpL a b) := by
  unfold labels_Compare slices_CompareFunc
  have key : ∀ d i : Nat, a.length - i = d → i ≤ a.length → i ≤ b.length →
      (Option.bind (loopO (slices_CompareFunc_l17 a b (fun x0 x1 => some (labels_Compare_1 x0 x1))) (i : Int)) fun (r5 : (Unit) ⊕ (Int)) =>
        match r5 with
        | Sum.inl r13 => bif (decide ((a.length : Int) < (b.length : Int))) then (some (-1)) else (some 0)
        | Sum.inr v43 => some v43) = some (cmpL (a.drop i) (b.drop i)) := by
    intro d
    induction d with
    | zero =>
      intro i hd hia hib
      have hi : i = a.length := by omega
      subst hi
      rw [loopO_done (r := .inl ()) (by
        unfold slices_CompareFunc_l17
        rw [show decide ((a.length : Int) < (a.length : Int)) = false from decide_eq_false (by omega)]; rfl)]
      rw [List.drop_length]
      by_cases hlt : a.length < b.length
      · rw [List.drop_eq_getElem_cons hlt]
        simp [hlt, cmpL]
      · rw [List.drop_eq_nil_of_le (by omega)]
        simp [hlt, cmpL]
    | succ d ih =>
      intro i hd hia hib
      have hlt : i < a.length := by omega
      have hx : ix a (i : Int) = some a[i] := by rw [ix_nat, List.getElem?_eq_getElem hlt]
      rw [List.drop_eq_getElem_cons hlt]
      by_cases hb : i < b.length
      · have hy : ix b (i : Int) = some b[i] := by rw [ix_nat, List.getElem?_eq_getElem hb]
        rw [List.drop_eq_getElem_cons hb]
        unfold cmpL
        have hbody : slices_CompareFunc_l17 a b (fun x0 x1 => some (labels_Compare_1 x0 x1)) (i : Int) = some (if cmpX a[i] b[i] ≠ 0 then .inr (.inr (cmpX a[i] b[i])) else .inl ((i + 1 : Nat) : Int)) := by
          unfold slices_CompareFunc_l17
          rw [show decide ((i : Int) < (a.length : Int)) = true from decide_eq_true (by omega), show decide ((i : Int) ≥ (b.length : Int)) = false from decide_eq_false (by omega)]
          simp only [cond_true, hx, hy, Option.bind_some, cond_false, cmp1_eq, wrap_up (show i < 4294967296 by omega)]
          by_cases h : cmpX a[i] b[i] = 0
          · simp [h]
          · rw [if_pos h, show (cmpX a[i] b[i] != 0) = true by simpa using h]; rfl
        by_cases h : cmpX a[i] b[i] = 0
        · rw [if_neg (by simpa using h)] at hbody ⊢
          rw [loopO_step hbody]
          exact ih (i + 1) (by omega) (by omega) (by omega)
        · rw [if_pos h] at hbody ⊢
          rw [loopO_done hbody]; rfl
      · rw [List.drop_eq_nil_of_le (show b.length ≤ i by omega)]
        have hbody : slices_CompareFunc_l17 a b (fun x0 x1 => some (labels_Compare_1 x0 x1)) (i : Int) = some (.inr (.inr 1)) := by
          unfold slices_CompareFunc_l17
          rw [show decide ((i : Int) < (a.length : Int)) = true from decide_eq_true (by omega), show decide ((i : Int) ≥ (b.length : Int)) = true from decide_eq_true (by omega)]
          simp only [cond_true, hx, Option.bind_some]
        rw [loopO_done hbody]; rfl
  have := key a.length 0 (by omega) (by omega) (by omega)
  rw [show ((0 : Nat) : Int) = 0 from rfl] at this
  exact (congrArg (fun X => Option.bind X (fun (y1 : Int) => some y1)) this).trans rfl
theorem refCompare_eq (a b : List S76) (ha : a.length ≤ 2147483648) : tocsinref04_Compare a b = some (cmpL a b) := by
  unfold tocsinref04_Compare
  have key : ∀ d i : Nat, a.length - i = d → i ≤ a.length → i ≤ b.length →
      (Option.bind (loopO (tocsinref04_Compare_l17 a b) (i : Int)) fun (r5 : (Unit) ⊕ (Int)) =>
        match r5 with
        | Sum.inl r13 => bif (decide ((a.length : Int) < (b.length : Int))) then (some (-1)) else (bif (decide ((a.length : Int) > (b.length : Int))) then (some 1) else (some 0))
        | Sum.inr v62 => some v62) = some (cmpL (a.drop i) (b.drop i)) := by
    intro d
    induction d with
    | zero =>
      intro i hd hia hib
      have hi : i = a.length := by omega
      subst hi
      rw [loopO_done (r := .inl ()) (by
        unfold tocsinref04_Compare_l17
        rw [show decide ((a.length : Int) < (a.length : Int)) = false from decide_eq_false (by omega)]; rfl)]
      rw [List.drop_length]
      by_cases hlt : a.length < b.length
      · rw [List.drop_eq_getElem_cons hlt]
        simp [hlt, cmpL]
      · rw [List.drop_eq_nil_of_le (by omega)]
        have h2 : ¬ b.length < a.length := by omega
        simp [hlt, h2, cmpL]
    | succ d ih =>
      intro i hd hia hib
      have hlt : i < a.length := by omega
      have hx : ix a (i : Int) = some a[i] := by rw [ix_nat, List.getElem?_eq_getElem hlt]
      rw [List.drop_eq_getElem_cons hlt]
      by_cases hb : i < b.length
      · have hy : ix b (i : Int) = some b[i] := by rw [ix_nat, List.getElem?_eq_getElem hb]
        rw [List.drop_eq_getElem_cons hb]
        unfold cmpL
        have hbody : tocsinref04_Compare_l17 a b (i : Int) = some (if cmpX a[i] b[i] ≠ 0 then .inr (.inr (cmpX a[i] b[i])) else .inl ((i + 1 : Nat) : Int)) := by
          unfold tocsinref04_Compare_l17
          rw [show decide ((i : Int) < (a.length : Int)) = true from decide_eq_true (by omega), show decide ((i : Int) < (b.length : Int)) = true from decide_eq_true (by omega)]
          simp only [Bool.and_self, cond_true, hx, hy, Option.bind_some, side_eq, wrap_up (show i < 4294967296 by omega)]
          unfold cmpX
          by_cases h : cmpS a[i].f0 b[i].f0 = 0
          · have h' : ¬ (cmpS a[i].f0 b[i].f0 ≠ 0) := by simpa using h
            simp only [if_neg h', show (cmpS a[i].f0 b[i].f0 != 0) = false by simp [h], cond_false]
            by_cases h2 : cmpS a[i].f1 b[i].f1 = 0
            · simp [h2]
            · rw [if_pos h2, show (cmpS a[i].f1 b[i].f1 != 0) = true by simpa using h2]; rfl
          · have h' : cmpS a[i].f0 b[i].f0 ≠ 0 := h
            simp only [if_pos h', show (cmpS a[i].f0 b[i].f0 != 0) = true by simpa using h, cond_true]
        by_cases h : cmpX a[i] b[i] = 0
        · rw [if_neg (by simpa using h)] at hbody ⊢
          rw [loopO_step hbody]
          exact ih (i + 1) (by omega) (by omega) (by omega)
        · rw [if_pos h] at hbody ⊢
          rw [loopO_done hbody]; rfl
      · rw [List.drop_eq_nil_of_le (show b.length ≤ i by omega)]
        have hbody : tocsinref04_Compare_l17 a b (i : Int) = some (.inr (.inl ())) := by
          unfold tocsinref04_Compare_l17
          rw [show decide ((i : Int) < (a.length : Int)) = true from decide_eq_true (by omega), show decide ((i : Int) < (b.length : Int)) = false from decide_eq_false (by omega)]
          rfl
        rw [loopO_done hbody]
        have h1 : ¬ a.length < b.length := by omega
        have h2 : b.length < a.length := by omega
        simp [h1, h2, cmpL]
  have := key a.length 0 (by omega) (by omega) (by omega)
  rw [show ((0 : Nat) : Int) = 0 from rfl] at this
  exact this
theorem refSame_eq (a b : List S76) (ha : a.length ≤ 2147483648) : tocsinref04_Same a b = some (decide (cmpL a b = 0)) := by
  unfold tocsinref04_Same
  rw [refCompare_eq a b ha]
  rfl
end Go.Proofs.YtkjkkimnjpodiaaGreatDoor

/- Plain laws: Vector: points, rising, each label set once. -/
set_option linter.unusedVariables false
set_option linter.unusedSimpArgs false
set_option maxRecDepth 100000
namespace Go.Proofs.YtkjkkimnjpodiaaGreatDoor
open Go.GB Go.Lib
abbrev PT := S38
def cmpP (x y : PT) : Int := cmpL x.f0 y.f0
theorem cmpP_self (x : PT) : cmpP x x = 0 := cmpL_self _
theorem cmpP_swap (x y : PT) : cmpP y x = - cmpP x y := cmpL_swap _ _
theorem cmpP_range (x y : PT) : cmpP x y = -1 ∨ cmpP x y = 0 ∨ cmpP x y = 1 := cmpL_range _ _
theorem cmpP_zero {x y : PT} (h : cmpP x y = 0) : x.f0 = y.f0 := cmpL_zero h
theorem cmpP_neg {x y : PT} : cmpP x y < 0 ↔ cmpP x y = -1 := ⟨fun h => by rcases cmpP_range x y with e | e | e <;> omega, fun h => by omega⟩
theorem cmpP_trans {x y z : PT} (h : cmpP x y < 0) (k : cmpP y z < 0) : cmpP x z < 0 := cmpP_neg.2 (cmpL_trans (cmpP_neg.1 h) (cmpP_neg.1 k))
theorem cmpP_ntrans {x y z : PT} (h : ¬ cmpP x y < 0) (k : ¬ cmpP y z < 0) : ¬ cmpP x z < 0 := fun e => by
  have h1 := cmpP_swap x y
  rcases cmpP_range y x with q | q | q
  · exact k (cmpP_trans (by omega) e)
  · have : y.f0 = x.f0 := cmpP_zero q
    apply k
    unfold cmpP at e ⊢
    rw [this]; exact e
  · omega
theorem swoP : Go.Sort.SWO (fun x y : PT => decide (cmpP x y < 0)) :=
  ⟨fun x => by simp [cmpP_self], fun x y z h k => by simp only [decide_eq_true_eq] at *; exact cmpP_trans h k, fun x y z h k => by simp only [decide_eq_false_iff_not] at *; exact cmpP_ntrans h k⟩
/-- No label set twice. -/
def DistP (l : List PT) : Prop := l.Pairwise fun x y => x.f0 ≠ y.f0
def RiseP (l : List PT) : Prop := l.Pairwise fun x y => cmpP x y < 0
theorem DistP.perm {l m : List PT} (h : DistP l) (p : l.Perm m) : DistP m := p.pairwise h (fun hab => Ne.symm hab)
theorem DistP.eq {l : List PT} (h : DistP l) {x y : PT} (hx : x ∈ l) (hy : y ∈ l) (e : x.f0 = y.f0) : x = y := by
  induction l with
  | nil => cases hx
  | cons z l ih =>
    obtain ⟨h1, h2⟩ := List.pairwise_cons.1 h
    rcases List.mem_cons.1 hx with rfl | hx1
    · rcases List.mem_cons.1 hy with rfl | hy1
      · rfl
      · exact absurd e (h1 y hy1)
    · rcases List.mem_cons.1 hy with rfl | hy1
      · exact absurd e.symm (h1 x hx1)
      · exact ih h2 hx1 hy1
theorem RiseP.dist {l : List PT} (h : RiseP l) : DistP l := h.imp fun {a b} hab e => by
  unfold cmpP at hab
  rw [e, cmpL_self] at hab; omega
noncomputable def vsort (l : List PT) : List PT := l.mergeSort (fun x y => !(decide (cmpP y x < 0)))
theorem vsort_perm (l : List PT) : (vsort l).Perm l := List.mergeSort_perm _ _
theorem vsort_sorted (l : List PT) : (vsort l).Pairwise fun x y => ¬ cmpP y x < 0 := by
  refine (List.pairwise_mergeSort (le := fun x y => !(decide (cmpP y x < 0))) ?_ ?_ l).imp (fun h => by simpa using h)
  · intro a b c h1 h2
    simp only [Bool.not_eq_true', decide_eq_false_iff_not] at h1 h2 ⊢
    exact cmpP_ntrans h2 h1
  · intro a b
    simp only [Bool.or_eq_true, Bool.not_eq_true', decide_eq_false_iff_not]
    have := cmpP_swap a b
    omega
theorem vsort_len (l : List PT) : (vsort l).length = l.length := (vsort_perm l).length_eq
theorem sorted_dist {l : List PT} (h : l.Pairwise fun x y => ¬ cmpP y x < 0) (hd : DistP l) : RiseP l := by
  refine (h.and hd).imp fun {a b} ⟨h1, h2⟩ => ?_
  have := cmpP_swap a b
  rcases cmpP_range a b with e | e | e
  · omega
  · exact absurd (cmpP_zero e) h2
  · omega
theorem vsort_rise {l : List PT} (h : DistP l) : RiseP (vsort l) := sorted_dist (vsort_sorted l) (h.perm (vsort_perm l).symm)
theorem sorted_unique {l r r' : List PT} (hd : DistP l) (p : r.Perm l) (p' : r'.Perm l) (h : r.Pairwise fun x y => ¬ cmpP y x < 0) (h' : r'.Pairwise fun x y => ¬ cmpP y x < 0) : r = r' := by
  refine (p.trans p'.symm).eq_of_pairwise (le := fun x y => ¬ cmpP y x < 0) (fun a b ha hb q1 q2 => ?_) h h'
  refine hd.eq (p.mem_iff.1 ha) (p'.mem_iff.1 hb) (cmpP_zero ?_)
  have := cmpP_swap a b
  omega
theorem rise_unique {r r' : List PT} (p : r.Perm r') (h : RiseP r) (h' : RiseP r') : r = r' :=
  sorted_unique (l := r') h'.dist p (.refl _) (h.imp fun {a b} q => by have := cmpP_swap a b; omega) (h'.imp fun {a b} q => by have := cmpP_swap a b; omega)
theorem adj_rise : ∀ {l : List PT}, (∀ i, (h : i + 1 < l.length) → cmpP l[i] l[i + 1] < 0) → RiseP l
  | [], _ => .nil
  | [x], _ => List.pairwise_singleton _ _
  | x :: y :: l, h => by
    have h2 : RiseP (y :: l) := adj_rise fun i hi => h (i + 1) (by simpa using hi)
    refine List.pairwise_cons.2 ⟨fun z hz => ?_, h2⟩
    have h0 := h 0 (by simp)
    simp only [List.getElem_cons_zero, Nat.zero_add, List.getElem_cons_succ] at h0
    rcases List.mem_cons.1 hz with rfl | hz1
    · exact h0
    · exact cmpP_trans h0 ((List.pairwise_cons.1 h2).1 z hz1)
/-- A loop that goes up from one. -/
theorem up_one {ρ : Type} {body : Int → Option (Int ⊕ (Unit ⊕ ρ))} {n : Nat} (q : Nat → Bool) (v : ρ) (h : ∀ i : Nat, 1 ≤ i → i < n → body i = some (bif q i then .inr (.inr v) else .inl ((i + 1 : Nat) : Int))) (he : ∀ i : Nat, 1 ≤ i → n ≤ i → body i = some (.inr (.inl ()))) :
    ((∀ i, 1 ≤ i → i < n → q i = false) → loopO body 1 = some (.inl ())) ∧ ((∃ i, 1 ≤ i ∧ i < n ∧ q i = true) → loopO body 1 = some (.inr v)) := by
  have key : ∀ d i : Nat, n - i = d → 1 ≤ i → ((∀ j, i ≤ j → j < n → q j = false) → loopO body (i : Int) = some (.inl ())) ∧ ((∃ j, i ≤ j ∧ j < n ∧ q j = true) → loopO body (i : Int) = some (.inr v)) := by
    intro d
    induction d with
    | zero => exact fun i hd hi => ⟨fun _ => loopO_done (he i hi (by omega)), fun ⟨j, h1, h2, _⟩ => by omega⟩
    | succ d ih =>
      intro i hd hi
      have hb := h i hi (by omega)
      cases hq : q i with
      | true =>
        rw [hq] at hb
        exact ⟨fun hall => (by have := hall i (Nat.le_refl _) (by omega); rw [hq] at this; cases this), fun _ => loopO_done hb⟩
      | false =>
        rw [hq] at hb
        obtain ⟨h1, h2⟩ := ih (i + 1) (by omega) (by omega)
        rw [loopO_step hb]
        refine ⟨fun hall => h1 fun j hj hn => hall j (by omega) hn, fun ⟨j, hj, hn, hqj⟩ => h2 ⟨j, ?_, hn, hqj⟩⟩
        rcases Nat.lt_or_ge i j with hlt | hge
        · omega
        · obtain rfl : j = i := by omega
          rw [hq] at hqj; cases hqj
  exact key (n - 1) 1 rfl (Nat.le_refl _)
open Classical in
/-- What Vector answers. -/
noncomputable def vecE (l : List PT) : List PT × Int := if l.length > 1000 then ([], 7) else if (l.any fun p => (rightE p.f0).1 != 0) = true then ([], 41) else if DistP l then (vsort l, 0) else ([], 150)
theorem all_right {l : List PT} (h : ¬ (l.any fun p => (rightE p.f0).1 != 0) = true) : ∀ p ∈ l, (rightE p.f0).1 = 0 := fun p hp => by
  rw [List.any_eq_true] at h
  exact Decidable.byContradiction fun hn => h ⟨p, hp, by simpa using hn⟩
theorem Vector_eq (l : List PT) : vec_Vector l = some (vecE l) := by
  unfold vec_Vector vecE
  by_cases hlen : l.length > 1000
  · rw [if_pos hlen, show decide ((l.length : Int) > 1000) = true from decide_eq_true (by omega)]; rfl
  rw [if_neg hlen, show decide ((l.length : Int) > 1000) = false from decide_eq_false (by omega)]
  simp only [cond_false]
  rw [up_any (n := l.length) (fun j => (l[j]?).any fun p => (rightE p.f0).1 != 0) (([], 41) : List PT × Int) (fun j hj => ?_) ?_, any_range]
  rotate_left
  · unfold vec_Vector_l18
    rw [show decide ((l.length : Int) < (l.length : Int)) = false from decide_eq_false (by omega)]; rfl
  · unfold vec_Vector_l18
    rw [show decide ((j : Int) < (l.length : Int)) = true from decide_eq_true (by omega)]
    simp only [cond_true, ix_nat, List.getElem?_eq_getElem hj, Option.bind_some, wrap_up (show j < 4294967296 by omega), Right_eq, Option.any_some]
    cases (rightE l[j].f0).1 != 0 <;> rfl
  by_cases hr : (l.any fun p => (rightE p.f0).1 != 0) = true
  · rw [if_pos hr, hr]; rfl
  rw [if_neg hr, show (l.any fun p => (rightE p.f0).1 != 0) = false by simpa using hr]
  have hall := all_right hr
  simp only [cond_false, Option.bind_some]
  rw [filter_up l (fun _ => true) id (by omega) (fun acc i hi ha => ?_) (fun acc => ?_)]
  rotate_left
  · unfold vec_Vector_l65
    have h16 := (right_parts (hall l[i] (List.getElem_mem hi))).1
    rw [show decide ((i : Int) < (l.length : Int)) = true from decide_eq_true (by omega)]
    simp only [cond_true, ix_nat, List.getElem?_eq_getElem hi, Option.bind_some, wrap_up (show i < 4294967296 by omega)]
    unfold slices_Clone
    rw [app_eq (by simp; omega)]
    simp only [Option.bind_some, List.nil_append]
    rw [app_eq (by simp; omega)]
    rfl
  · unfold vec_Vector_l65
    rw [show decide ((l.length : Int) < (l.length : Int)) = false from decide_eq_false (by omega)]; rfl
  rw [show l.filter (fun _ => true) = l from List.filter_eq_self.2 fun _ _ => rfl]
  simp only [Option.bind_some, id]
  have hcmp : ∀ x ∈ l, ∀ y : PT, vec_Vector_1 x y = some (cmpP x y) := fun x hx y => by
    have := (right_parts (hall x hx)).1
    unfold vec_Vector_1
    rw [compare_eq _ _ (by omega)]; rfl
  refine sortBind_of ⟨cmpP, fun x hx y _ => hcmp x hx y, swoP⟩ fun r hrel => ?_
  have hp := hrel.1
  have hs := hrel.2 cmpP fun x hx y _ => hcmp x hx y
  have hrl := hp.length_eq
  obtain ⟨g1, g2⟩ := up_one (body := vec_Vector_l131 r) (n := r.length) (fun i => match r[i - 1]?, r[i]? with | some x, some y => cmpP x y == 0 | _, _ => false) (([], 150) : List PT × Int) (fun i h1 hi => by
      unfold vec_Vector_l131
      rw [show decide ((i : Int) < (r.length : Int)) = true from decide_eq_true (by omega)]
      have hx := hcmp r[i - 1] (hp.mem_iff.1 (List.getElem_mem (by omega))) r[i]
      unfold vec_Vector_1 at hx
      simp only [cond_true, ix_prev (show 0 < i by omega) (show i < 4294967296 by omega), ix_nat, List.getElem?_eq_getElem hi, List.getElem?_eq_getElem (show i - 1 < r.length by omega), Option.bind_some, wrap_up (show i < 4294967296 by omega)]
      rw [compare_eq _ _ (by have := (right_parts (hall r[i - 1] (hp.mem_iff.1 (List.getElem_mem (by omega))))).1; omega)]
      simp only [Option.bind_some]
      show _ = some (bif cmpL r[i - 1].f0 r[i].f0 == 0 then _ else _)
      cases cmpL r[i - 1].f0 r[i].f0 == 0 <;> rfl)
    (fun i h1 hi => by
      unfold vec_Vector_l131
      rw [show decide ((i : Int) < (r.length : Int)) = false from decide_eq_false (by omega)]; rfl)
  by_cases hd : DistP l
  · rw [if_pos hd, g1 fun i h1 hi => ?_]
    · rw [sorted_unique hd hp (vsort_perm l) hs (vsort_sorted l)]; rfl
    · have hdr := hd.perm hp.symm
      have hri := sorted_dist hs hdr
      have := List.pairwise_iff_getElem.1 hri (i - 1) i (by omega) hi (by omega)
      simp only [List.getElem?_eq_getElem hi, List.getElem?_eq_getElem (show i - 1 < r.length by omega)]
      simp; omega
  · rw [if_neg hd, g2 ?_]
    · rfl
    · refine Classical.byContradiction fun hn => hd (DistP.perm (RiseP.dist (adj_rise (l := r) fun i hi => ?_)) hp)
      have hnot := List.pairwise_iff_getElem.1 hs i (i + 1) (by omega) hi (by omega)
      have hsw := cmpP_swap r[i] r[i + 1]
      rcases cmpP_range r[i] r[i + 1] with e | e | e
      · omega
      · refine absurd ⟨i + 1, by omega, hi, ?_⟩ hn
        simp only [Nat.add_sub_cancel, List.getElem?_eq_getElem hi, List.getElem?_eq_getElem (show i < r.length by omega), e]; rfl
      · omega
theorem vecE_ok {l : List PT} (h : (vecE l).2 = 0) : l.length ≤ 1000 ∧ (∀ p ∈ l, (rightE p.f0).1 = 0) ∧ DistP l ∧ (vecE l).1 = vsort l := by
  unfold vecE at h ⊢
  split at h
  · cases h
  · rename_i h1
    split at h
    · cases h
    · rename_i h2
      split at h
      · rename_i h3
        rw [if_neg h1, if_neg h2, if_pos h3]
        exact ⟨by omega, all_right h2, h3, rfl⟩
      · cases h
theorem vecE_of {l : List PT} (h1 : l.length ≤ 1000) (h2 : ∀ p ∈ l, (rightE p.f0).1 = 0) (h3 : DistP l) : vecE l = (vsort l, 0) := by
  unfold vecE
  rw [if_neg (by omega), if_neg (by
    rw [List.any_eq_true]
    rintro ⟨p, hp, hb⟩
    rw [h2 p hp] at hb; cases hb), if_pos h3]
end Go.Proofs.YtkjkkimnjpodiaaGreatDoor

/- Plain laws: numbers and texts in bytes: the program's are the document's. -/
set_option linter.unusedVariables false
set_option linter.unusedSimpArgs false
set_option maxRecDepth 100000
namespace Go.Proofs.YtkjkkimnjpodiaaGreatDoor
open Go.GB Go.Lib
theorem joined_eq {a b : List Int} (h : a.length + b.length ≤ 2147483648) : vint_joined a b = some (a ++ b) := by
  unfold vint_joined
  have e : mkrow (0 : Int) 0 (IntKind.wrap .i64 ((a.length : Int) + (b.length : Int))) = some [] := by
    unfold mkrow
    rw [wrap64 (by omega) (by omega), if_pos ⟨by omega, by omega, by omega⟩]; rfl
  rw [e]
  simp only [Option.bind_some]
  rw [app_eq (by simp; omega)]
  simp only [Option.bind_some, List.nil_append]
  rw [app_eq h]; rfl
theorem PutU_eq {a : List Int} {n : Nat} (hn : n < 18446744073709551616) (h : a.length + 10 ≤ 2147483648) : vint_PutU a (n : Int) = some (a ++ uv n) := by
  unfold vint_PutU
  obtain ⟨m, acc, h1, h2, h3, h4⟩ := putu_loop (body := vint_PutU_l28) (fun n acc hn => by
    unfold vint_PutU_l28
    by_cases hlt : n < 128
    · rw [if_pos hlt, show decide ((((n : Nat) : Int), acc).1 ≥ 128) = false from decide_eq_false (by show ¬ ((n : Int) ≥ 128); omega)]; rfl
    · rw [if_neg hlt, show decide ((((n : Nat) : Int), acc).1 ≥ 128) = true from decide_eq_true (by show (n : Int) ≥ 128; omega)]
      have e1 : bitOr .u8 (IntKind.wrap .u8 (n : Int)) 128 = ((n % 128 + 128 : Nat) : Int) := by
        have := fin_and (P := fun c => bitOr .u8 ((c : Nat) : Int) 128 = ((c % 128 + 128 : Nat) : Int)) or128 (n := n % 256) (by omega)
        rw [wrapU8_eq, show (n : Int) % 256 = ((n % 256 : Nat) : Int) by omega, this]; omega
      have e2 : shr .u64 (n : Int) 7 = ((n / 128 : Nat) : Int) := shr_nat .u64 n 7 (by decide)
      simp only [cond_true, e1, e2]) 10 n [] (by omega) hn (by simp) (by omega)
  rw [show ((n : Int), ([] : List Int)) = ((n : Int), []) from rfl, h2]
  simp only [Option.bind_some]
  rw [wrapU8 (by omega) (by omega), app_eq (by simp at h4 ⊢; omega), h3]
  simp only [Option.bind_some, List.nil_append]
  rw [joined_eq (by have := uv_len n; unfold uv at this; omega)]
  rfl
theorem PutText_eq {a : List Int} {s : ByteArray} (h : a.length + 10 + s.size ≤ 2147483648) : vint_PutText a s = some (a ++ uv s.size ++ bytesOf s) := by
  unfold vint_PutText
  rw [wrapU64 (by omega) (by omega), PutU_eq (by omega) (by omega)]
  simp only [Option.bind_some]
  rw [sb_eq (by omega)]
  simp only [Option.bind_some]
  rw [joined_eq (by have := uv_len s.size; simp [bytesOf_length]; omega)]
  rfl
end Go.Proofs.YtkjkkimnjpodiaaGreatDoor

/- Plain laws: what is written in few bytes is read back. -/
set_option linter.unusedVariables false
set_option linter.unusedSimpArgs false
set_option maxRecDepth 100000
namespace Go.Proofs.YtkjkkimnjpodiaaGreatDoor
open Go.GB Go.Lib
end Go.Proofs.YtkjkkimnjpodiaaGreatDoor

/- Plain laws: label sets in bytes. -/
set_option linter.unusedVariables false
set_option linter.unusedSimpArgs false
set_option maxRecDepth 100000
namespace Go.Proofs.YtkjkkimnjpodiaaGreatDoor
open Go.GB Go.Lib
def encLab (x : S76) : List Int := (uv x.f0.size ++ bytesOf x.f0) ++ (uv x.f1.size ++ bytesOf x.f1)
def encLabs (l : List S76) : List Int := l.flatMap encLab
def encL (l : List S76) : List Int := uv l.length ++ encLabs l
theorem encLab_len {x : S76} (h : oneE x = 0) : (encLab x).length ≤ 340 := by
  obtain ⟨h1, _, h2, _⟩ := one_parts h
  have h3 := (named_valid h1).1
  have := uv_len x.f0.size
  have := uv_len x.f1.size
  simp [encLab, bytesOf_length]
  omega
theorem encLabs_len : ∀ {l : List S76}, (∀ x ∈ l, oneE x = 0) → (encLabs l).length ≤ 340 * l.length
  | [], _ => by simp [encLabs]
  | x :: r, h => by
    have h1 := encLab_len (h x (by simp))
    have h2 := encLabs_len (l := r) (fun y hy => h y (by simp [hy]))
    unfold encLabs at h2 ⊢
    simp only [List.flatMap_cons, List.length_append, List.length_cons]
    omega
theorem encLabs_take {l : List S76} {i : Nat} (hi : i < l.length) : encLabs (l.take (i + 1)) = encLabs (l.take i) ++ encLab l[i] := by
  unfold encLabs
  rw [List.take_add_one, List.getElem?_eq_getElem hi]
  simp only [Option.toList_some, List.flatMap_append, List.flatMap_cons, List.flatMap_nil, List.append_nil]
theorem Put_eq {a : List Int} {l : List S76} (ha : a.length ≤ 2147470000) : labels_Put a l = some (if (rightE l).1 = 0 then a ++ encL l else [], (rightE l).1) := by
  unfold labels_Put labels_right
  rw [Right_eq]
  simp only [Option.bind_some]
  by_cases h : (rightE l).1 = 0
  · obtain ⟨h1, h2⟩ := right_parts h
    rw [if_pos h, show ((rightE l).1 != 0) = false by simp [h]]
    simp only [cond_false]
    rw [wrapU64 (by omega) (by omega), PutU_eq (by omega) (by omega)]
    simp only [Option.bind_some]
    have hl := uv_len l.length
    have hloop := up_inv (body := labels_Put_l40 l) (fun i => (a ++ uv l.length ++ encLabs (l.take i), (i : Int))) (n := l.length) (r := a ++ uv l.length ++ encLabs l) (fun i hi => by
      unfold labels_Put_l40
      have hx : ix l (i : Int) = some l[i] := by rw [ix_nat, List.getElem?_eq_getElem hi]
      have h3 := encLabs_len (l := l.take i) (fun x hx => h2 x (List.mem_of_mem_take hx))
      have h4 := h2 l[i] (List.getElem_mem hi)
      obtain ⟨k1, _, k2, _⟩ := one_parts h4
      have k3 := (named_valid k1).1
      have k4 := uv_len l[i].f0.size
      have hti : (l.take i).length ≤ 16 := by rw [List.length_take]; omega
      rw [show decide ((a ++ uv l.length ++ encLabs (l.take i), (i : Int)).2 < (l.length : Int)) = true from decide_eq_true (by show (i : Int) < _; omega)]
      simp only [cond_true, hx, Option.bind_some]
      rw [PutText_eq (by simp only [List.length_append]; omega)]
      simp only [Option.bind_some]
      rw [PutText_eq (by simp only [List.length_append, bytesOf_length]; omega)]
      simp only [Option.bind_some, wrap_up (show i < 4294967296 by omega)]
      rw [encLabs_take hi]
      simp [encLab]) (by
      unfold labels_Put_l40
      rw [show decide ((a ++ uv l.length ++ encLabs (l.take l.length), (l.length : Int)).2 < (l.length : Int)) = false from decide_eq_false (by show ¬ ((l.length : Int) < _); omega)]
      rw [List.take_length]; rfl) 0 (Nat.zero_le _)
    simp only [List.take_zero, encLabs, List.flatMap_nil, List.append_nil, Int.ofNat_zero, Int.natCast_zero] at hloop
    rw [hloop]
    simp [h, encL, encLabs]
  · rw [if_neg h, show ((rightE l).1 != 0) = true by simpa using h]
    rfl
end Go.Proofs.YtkjkkimnjpodiaaGreatDoor

/- Plain laws: what points are matched by. -/
set_option linter.unusedVariables false
set_option linter.unusedSimpArgs false
set_option maxRecDepth 100000
namespace Go.Proofs.YtkjkkimnjpodiaaGreatDoor
open Go.GB Go.Lib
abbrev MT := S24
def nameS : ByteArray := ⟨#[95, 95, 110, 97, 109, 101, 95, 95]⟩
theorem right_rise {l : List LB} (h : (rightE l).1 = 0) : l.Pairwise fun x y => cmpS x.f0 y.f0 = -1 := by
  obtain ⟨h1, h2⟩ := right_none h
  rw [List.pairwise_iff_getElem]
  intro i j hi hj hij
  have step : ∀ k, ∀ (hk : k + 1 < l.length), cmpS (l[k]'(by omega)).f0 l[k + 1].f0 = -1 := by
    intro k hk
    have h3 := h2 (k + 1) hk
    unfold faultAt at h3
    rw [List.getElem?_eq_getElem hk] at h3
    simp only at h3
    split at h3
    · cases h3
    · rw [if_neg (by omega), Nat.add_sub_cancel, List.getElem?_eq_getElem (by omega)] at h3
      simp only at h3
      split at h3
      · rename_i hc; exact hc
      · cases h3
  have key : ∀ d, ∀ (hd : i + 1 + d < l.length), cmpS l[i].f0 l[i + 1 + d].f0 = -1 := by
    intro d
    induction d with
    | zero => intro hd; exact step i (by omega)
    | succ d ih =>
      intro hd
      exact cmpS_trans (ih (by omega)) (step (i + 1 + d) (by omega))
  have := key (j - (i + 1)) (by omega)
  rw [show l[j] = l[i + 1 + (j - (i + 1))] from by congr 1; omega]
  exact this
theorem right_of {l : List LB} (h1 : l.length ≤ 16) (h2 : ∀ x ∈ l, oneE x = 0) (h3 : l.Pairwise fun x y => cmpS x.f0 y.f0 = -1) : (rightE l).1 = 0 := by
  have h4 : (List.range l.length).findSome? (faultAt l) = none := by
    rw [List.findSome?_eq_none_iff]
    intro i hi
    have hi' := List.mem_range.1 hi
    unfold faultAt
    rw [List.getElem?_eq_getElem hi']
    simp only
    rw [if_neg (by rw [h2 _ (List.getElem_mem hi')]; simp)]
    by_cases h0 : i = 0
    · rw [if_pos h0]
    · rw [if_neg h0, List.getElem?_eq_getElem (by omega)]
      simp only
      rw [if_pos (List.pairwise_iff_getElem.1 h3 (i - 1) i (by omega) hi' (by omega))]
  unfold rightE
  rw [if_neg (by omega), h4]; rfl
theorem right_filter {l : List LB} (h : (rightE l).1 = 0) (p : LB → Bool) : (rightE (l.filter p)).1 = 0 := by
  obtain ⟨h1, h2⟩ := right_parts h
  exact right_of (Nat.le_trans (List.length_filter_le p l) h1) (fun x hx => h2 x (List.mem_filter.1 hx).1) ((right_rise h).filter p)
/-! ### Bytes tell label sets apart -/
/-! ### Signatures -/
/-- The labels by which a point is matched. -/
noncomputable def pickE (m : MT) (l : List LB) : List LB := bif m.f1 then l.filter fun x => (hasB m.f2 x.f0 == true) else l.filter fun x => (hasB (m.f2 ++ [nameS]) x.f0 == false)
noncomputable def sigE (m : MT) (l : List LB) : ByteArray := ofBytes (encL (pickE m l))
theorem pickE_right {l : List LB} (h : (rightE l).1 = 0) (m : MT) : (rightE (pickE m l)).1 = 0 := by
  unfold pickE
  cases m.f1
  · exact right_filter h _
  · exact right_filter h _
theorem signature_eq {l : List LB} (h : (rightE l).1 = 0) (m : MT) (hm : m.f2.length < 2147483000) : vec_signature l m = some (sigE m l) := by
  have hl := (right_parts h).1
  unfold vec_signature sigE
  have key : (bif m.f1 then (Option.bind (labels_Keep l m.f2) fun y12 => some y12.1) else (Option.bind (slices_Clone_f76 m.f2) fun y21 => Option.bind (app y21 [nameS]) fun zs34 => Option.bind (labels_Without l zs34) fun y44 => some y44.1)) = some (pickE m l) := by
    unfold pickE
    cases m.f1 with
    | true =>
      simp only [cond_true]
      rw [Keep_eq l _ (by omega) (by omega), keepE_right h]; rfl
    | false =>
      simp only [cond_false]
      unfold slices_Clone_f76
      rw [app_eq (by simp; omega)]
      simp only [Option.bind_some, List.nil_append]
      rw [app_eq (by simp; omega)]
      simp only [Option.bind_some]
      rw [Without_eq l _ (by omega) (by simp; omega), keepE_right h]; rfl
  unfold nameS at key
  rw [key]
  simp only [Option.bind_some]
  rw [Put_eq (by simp), if_pos (pickE_right h m)]
  rfl
/-! ### What is wrong of a match -/
noncomputable def namesB (l : List ByteArray) : Bool := l.all fun s => namedB s 64 false
theorem concat_two (a b : List ByteArray) (h : a.length + b.length < 2147483000) : slices_Concat [a, b] = some (a ++ b) := by
  have w1 : IntKind.wrap .i64 (0 + (a.length : Int)) = (a.length : Int) := by rw [wrap64 (by omega) (by omega)]; omega
  have w2 : IntKind.wrap .i64 ((a.length : Int) + (b.length : Int)) = ((a.length + b.length : Nat) : Int) := by rw [wrap64 (by omega) (by omega)]; omega
  have i0 : ix [a, b] (0 : Int) = some a := rfl
  have i1 : ix [a, b] (1 : Int) = some b := rfl
  have o1 : IntKind.wrap .i64 (0 + 1) = (1 : Int) := by decide
  have o2 : IntKind.wrap .i64 (1 + 1) = (2 : Int) := by decide
  have l1 : loopO (slices_Concat_l16 [a, b]) (0, 0) = some ((a.length + b.length : Nat) : Int) := by
    rw [loopO_step (s' := ((a.length : Int), 1)) ?_, loopO_step (s' := (((a.length + b.length : Nat) : Int), 2)) ?_, loopO_done (r := ((a.length + b.length : Nat) : Int)) ?_]
    · rfl
    · unfold slices_Concat_l16
      simp only [show decide ((1 : Int) < (([a, b].length : Nat) : Int)) = true from rfl, cond_true, i1, Option.bind_some, w2, o2]
      rw [show decide (((a.length + b.length : Nat) : Int) < 0) = false from decide_eq_false (by omega)]; rfl
    · unfold slices_Concat_l16
      simp only [show decide ((0 : Int) < (([a, b].length : Nat) : Int)) = true from rfl, cond_true, i0, Option.bind_some, w1, o1]
      rw [show decide ((a.length : Int) < 0) = false from decide_eq_false (by omega)]; rfl
  have l2 : loopO (slices_Concat_l67 [a, b]) ([], 0) = some (a ++ b) := by
    rw [loopO_step (s' := (a, 1)) ?_, loopO_step (s' := (a ++ b, 2)) ?_, loopO_done (r := a ++ b) ?_]
    · rfl
    · unfold slices_Concat_l67
      simp only [show decide ((1 : Int) < (([a, b].length : Nat) : Int)) = true from rfl, cond_true, i1, Option.bind_some, o2]
      rw [app_eq (by omega)]; rfl
    · unfold slices_Concat_l67
      simp only [show decide ((0 : Int) < (([a, b].length : Nat) : Int)) = true from rfl, cond_true, i0, Option.bind_some, o1]
      rw [app_eq (by simp; omega)]; rfl
  unfold slices_Concat
  rw [l1]
  simp only [Option.bind_some]
  have hg : slices_Grow ((a.length + b.length : Nat) : Int) = some [] := by
    unfold slices_Grow
    rw [show decide (((a.length + b.length : Nat) : Int) < 0) = false from decide_eq_false (by omega)]
    have w3 : IntKind.wrap .i64 (((a.length + b.length : Nat) : Int) - IntKind.wrap .i64 (0 - 0)) = ((a.length + b.length : Nat) : Int) := by
      rw [show IntKind.wrap .i64 (0 - 0) = 0 by decide, wrap64 (by omega) (by omega)]; omega
    simp only [cond_false, w3]
    by_cases h0 : a.length + b.length = 0
    · rw [h0]; rfl
    · rw [show decide (((a.length + b.length : Nat) : Int) > 0) = true from decide_eq_true (by omega)]
      simp only [cond_true]
      unfold zrow
      rw [if_pos ⟨by omega, by omega⟩]
      simp only [Option.bind_some]
      unfold lx
      rw [if_pos ⟨by omega, by omega, by omega⟩]
      rfl
  rw [hg]
  simp only [Option.bind_some]
  rw [l2]; rfl
theorem wrong_none {op : Int} {card : Int} {on : Bool} {names : List ByteArray} (hc : (card = 3 ∧ 13 ≤ op) ∨ (card = 0 ∧ op < 13)) (hn : names.length < 2147480000) : vec_wrong op (⟨card, on, names, []⟩ : MT) = some (bif namesB names then 0 else 40) := by
  unfold vec_wrong
  have h1 : (((decide (card < 0)) || (decide (card > 3))) || (!((card == 3) == (decide (op ≥ 13))))) = false := by
    rcases hc with ⟨rfl, h⟩ | ⟨rfl, h⟩
    · rw [show decide (op ≥ 13) = true from decide_eq_true h]; decide
    · rw [show decide (op ≥ 13) = false from decide_eq_false (by omega)]; decide
  simp only [h1, cond_false]
  rw [concat_two _ _ (by simp; omega)]
  simp only [Option.bind_some, List.append_nil]
  rw [up_any (n := names.length) (fun j => (names[j]?).any fun s => !(namedB s 64 false)) (40 : Int) (fun j hj => ?_) ?_, any_range]
  · have e : (names.any fun s => !(namedB s 64 false)) = !namesB names := by unfold namesB; rw [List.not_all_eq_any_not]
    rw [e]
    cases namesB names with
    | true =>
      simp only [Bool.not_true, cond_false, cond_true, Option.bind_some]
      rw [show (decide (((([] : List ByteArray).length : Nat) : Int) > 0)) = false from rfl]
      simp only [Bool.false_and, cond_false]
      rw [loopO_done (r := (Sum.inl () : Unit ⊕ Int)) (by unfold vec_wrong_l82; rfl)]; rfl
    | false => rfl
  · unfold vec_wrong_l43
    rw [show decide ((names.length : Int) < (names.length : Int)) = false from decide_eq_false (by omega)]; rfl
  · unfold vec_wrong_l43
    rw [show decide ((j : Int) < (names.length : Int)) = true from decide_eq_true (by omega)]
    simp only [cond_true, ix_nat, List.getElem?_eq_getElem hj, Option.bind_some, wrap_up (show j < 4294967296 by omega), Name_eq, Option.any_some]
    cases namedB names[j] 64 false <;> rfl
end Go.Proofs.YtkjkkimnjpodiaaGreatDoor

/- Plain laws: points alike; maps by texts; lists gathered. -/
set_option linter.unusedVariables false
set_option linter.unusedSimpArgs false
set_option maxRecDepth 100000
namespace Go.Proofs.YtkjkkimnjpodiaaGreatDoor
open Go.GB Go.Lib
/-- A point whose value's bits are known. -/
def FinP (p : PT) : Prop := p.f0.length ≤ 2147483000 ∧ ∃ x, p.f1 = some x
theorem filter_from {α ρ : Type} {body : List α × Int → Option ((List α × Int) ⊕ ρ)} (l : List α) (p : α → Bool) (g : List α → ρ) (acc0 : List α)
    (h : ∀ (acc : List α) (i : Nat) (hi : i < l.length), acc.length ≤ acc0.length + i → body (acc, (i : Int)) = some (.inl ((bif p l[i] then acc ++ [l[i]] else acc), ((i + 1 : Nat) : Int))))
    (he : ∀ acc, body (acc, (l.length : Int)) = some (.inr (g acc))) : loopO body (acc0, 0) = some (g (acc0 ++ l.filter p)) := by
  have := fold_up (body := body) l (fun acc x => bif p x then acc ++ [x] else acc) g (fun acc i => acc.length ≤ acc0.length + i) (fun acc i hi hI => ⟨h acc i hi hI, by cases p l[i] <;> simp <;> omega⟩) (fun acc _ => he acc) l.length 0 acc0 (by omega) (by omega) (by simp)
  rw [List.drop_zero, fold_filter] at this
  exact this
open Classical in
theorem Same_eq {a b : List PT} (ha : ∀ p ∈ a, FinP p) (hb : ∀ p ∈ b, FinP p) (hl : a.length < 2147483648) : tocsinref11_SamePoints a b = some (decide (a = b)) := by
  unfold tocsinref11_SamePoints
  by_cases hlen : a.length = b.length
  · rw [show ((a.length : Int) != (b.length : Int)) = false by simp [hlen]]
    simp only [cond_false]
    rw [up_any (n := a.length) (fun j => match a[j]?, b[j]? with | some x, some y => !(decide (x = y)) | _, _ => false) false (fun j hj => ?_) ?_]
    · cases hq : (List.range a.length).any (fun j => match a[j]?, b[j]? with | some x, some y => !(decide (x = y)) | _, _ => false) with
      | true =>
        obtain ⟨j, hj, hn⟩ := List.any_eq_true.1 hq
        have hj' := List.mem_range.1 hj
        have : a ≠ b := fun e => by
          subst e
          rw [List.getElem?_eq_getElem hj'] at hn
          simp at hn
        rw [decide_eq_false this]; rfl
      | false =>
        rw [List.any_eq_false] at hq
        have : a = b := by
          refine List.ext_getElem hlen fun j h1 h2 => ?_
          have := hq j (List.mem_range.2 h1)
          rw [List.getElem?_eq_getElem h1, List.getElem?_eq_getElem h2] at this
          simpa using this
        rw [decide_eq_true this]; rfl
    · unfold tocsinref11_SamePoints_l18
      rw [show decide ((a.length : Int) < (a.length : Int)) = false from decide_eq_false (by omega)]; rfl
    · have hj2 : j < b.length := by omega
      obtain ⟨x1, x, x2⟩ := ha a[j] (List.getElem_mem hj)
      obtain ⟨y1, y, y2⟩ := hb b[j] (List.getElem_mem hj2)
      unfold tocsinref11_SamePoints_l18
      rw [show decide ((j : Int) < (a.length : Int)) = true from decide_eq_true (by omega)]
      simp only [cond_true, ix_nat, List.getElem?_eq_getElem hj, List.getElem?_eq_getElem hj2, Option.bind_some, wrap_up (show j < 4294967296 by omega)]
      rw [refSame_eq _ _ (by omega)]
      simp only [Option.bind_some, x2, y2, fbits]
      have hiff : a[j] = b[j] ↔ cmpL a[j].f0 b[j].f0 = 0 ∧ x = y := by
        constructor
        · intro e
          rw [e] at x2 ⊢
          rw [x2] at y2
          exact ⟨cmpL_self _, by cases y2; rfl⟩
        · rintro ⟨e1, e2⟩
          have := cmpL_zero e1
          revert x2 y2 this
          generalize a[j] = p
          generalize b[j] = q
          obtain ⟨p1, p2⟩ := p
          obtain ⟨q1, q2⟩ := q
          rintro h1 h2 h3
          simp only at h1 h2 h3
          rw [h1, h2, h3, e2]
      by_cases h0 : cmpL a[j].f0 b[j].f0 = 0
      · by_cases hxy : x = y
        · rw [decide_eq_true h0, decide_eq_true (hiff.2 ⟨h0, hxy⟩), hxy]
          simp
        · rw [decide_eq_true h0, decide_eq_false (fun e => hxy (hiff.1 e).2)]
          have : ((x : Int) != (y : Int)) = true := bne_iff_ne.2 fun e => hxy (by omega)
          simp [this]
      · rw [decide_eq_false h0, decide_eq_false (fun e => h0 (hiff.1 e).1)]
        rfl
  · rw [show ((a.length : Int) != (b.length : Int)) = true by simpa using fun e : (a.length : Int) = b.length => hlen (by omega), decide_eq_false (fun e => hlen (by rw [e]))]
    rfl
theorem Same_self {a : List PT} (ha : ∀ p ∈ a, FinP p) (hl : a.length < 2147483648) : tocsinref11_SamePoints a a = some true := by
  rw [Same_eq ha ha hl]; simp
/-! ### Maps by texts -/
theorem strBeq (a b : ByteArray) : Ky.str.beq a b = true ↔ a = b := ba_beq
theorem mget_mput {υ : Type} (k : ByteArray) (v : υ) (k' : ByteArray) : ∀ m : List (ByteArray × υ), mget Ky.str (mput Ky.str m k v) k' = bif Ky.str.beq k' k then some v else mget Ky.str m k'
  | [] => rfl
  | (k1, v1) :: m => by
    unfold mput
    cases h1 : Ky.str.beq k k1 with
    | true =>
      obtain rfl := (strBeq _ _).1 h1
      simp only [cond_true, mget]
      cases Ky.str.beq k' k <;> rfl
    | false =>
      simp only [cond_false, mget]
      rw [mget_mput k v k' m]
      cases h2 : Ky.str.beq k' k1 with
      | true =>
        obtain rfl := (strBeq _ _).1 h2
        cases h3 : Ky.str.beq k' k with
        | true => obtain rfl := (strBeq _ _).1 h3; rw [h1] at h2; cases h2
        | false => rfl
      | false => rfl
end Go.Proofs.YtkjkkimnjpodiaaGreatDoor

set_option linter.unusedVariables false
set_option linter.unusedSimpArgs false
set_option maxRecDepth 100000
namespace Go.Proofs.YtkjkkimnjpodiaaGreatDoor
open Go.GB Go.Lib
/-- Is a point matched by one of some? -/
noncomputable def inB (m : MT) (r : List PT) (x : PT) : Bool := r.any fun y => Ky.str.beq (sigE m x.f0) (sigE m y.f0)
noncomputable def setM (m : MT) (l : List PT) : List (ByteArray × Bool) := l.foldl (fun acc x => mput Ky.str acc (sigE m x.f0) true) []
theorem setM_get (m : MT) (k : ByteArray) : ∀ (l : List PT) (acc : List (ByteArray × Bool)), (∀ v, mget Ky.str acc k = some v → v = true) →
    (mget Ky.str (l.foldl (fun acc x => mput Ky.str acc (sigE m x.f0) true) acc) k).getD false = ((mget Ky.str acc k).getD false || l.any fun y => Ky.str.beq k (sigE m y.f0))
  | [], acc, _ => by simp
  | x :: l, acc, h => by
    rw [List.foldl_cons, setM_get m k l _ (fun v hv => by
      rw [mget_mput] at hv
      cases hb : Ky.str.beq k (sigE m x.f0) with
      | true => rw [hb] at hv; cases hv; rfl
      | false => rw [hb] at hv; exact h v hv)]
    rw [mget_mput]
    cases hb : Ky.str.beq k (sigE m x.f0) with
    | true => simp [hb]
    | false => simp [hb]
theorem sets1_eq {l : List PT} {m : MT} (hr : ∀ p ∈ l, (rightE p.f0).1 = 0) (hl : l.length ≤ 2147483000) (hm : m.f2.length < 2147483000) : vec_sets_1 l m = some (setM m l) := by
  unfold vec_sets_1
  have := fold_up (body := vec_sets_1_l25 l m) l (fun acc x => mput Ky.str acc (sigE m x.f0) true) id (fun _ _ => True) (fun acc i hi _ => ⟨by
    unfold vec_sets_1_l25
    rw [show decide ((acc, (i : Int)).2 < (l.length : Int)) = true from decide_eq_true (by show (i : Int) < _; omega)]
    simp only [cond_true, ix_nat, List.getElem?_eq_getElem hi, Option.bind_some, wrap_up (show i < 4294967296 by omega)]
    rw [signature_eq (hr _ (List.getElem_mem hi)) m hm]; rfl, trivial⟩) (fun acc _ => by
    unfold vec_sets_1_l25
    rw [show decide ((acc, (l.length : Int)).2 < (l.length : Int)) = false from decide_eq_false (by show ¬ (l.length : Int) < _; omega)]; rfl) l.length 0 ([] : List (ByteArray × Bool)) (by omega) (by omega) trivial
  rw [List.drop_zero] at this
  rw [show ((0 : Nat) : Int) = (0 : Int) from rfl] at this
  rw [this]; rfl
noncomputable def setsE (op : Int) (m : MT) (l r : List PT) : List PT := (l.filter fun x => (op == 14) || (inB m r x == (op == 13))) ++ (r.filter fun x => (op == 14) && !(inB m l x))
theorem inB_get (m : MT) (r : List PT) (x : PT) : (mget Ky.str (setM m r) (sigE m x.f0)).getD false = inB m r x := by
  unfold setM inB
  rw [setM_get m _ r [] (fun v h => by cases h)]
  simp [mget]
theorem sets_eq {l r : List PT} {m : MT} (op : Int) (hl : ∀ p ∈ l, (rightE p.f0).1 = 0) (hr : ∀ p ∈ r, (rightE p.f0).1 = 0) (ll : l.length ≤ 1000) (lr : r.length ≤ 1000) (hm : m.f2.length < 2147483000) : vec_sets op l r m = some (setsE op m l r) := by
  unfold vec_sets setsE
  rw [sets1_eq hl (by omega) hm, sets1_eq hr (by omega) hm]
  simp only [Option.bind_some]
  rw [filter_up l (fun x => (op == 14) || (inB m r x == (op == 13))) id (by omega) (fun acc i hi ha => ?_) (fun acc => ?_)]
  rotate_left
  · unfold vec_sets_l49
    rw [show decide ((acc, (i : Int)).2 < (l.length : Int)) = true from decide_eq_true (by show (i : Int) < _; omega)]
    simp only [cond_true, ix_nat, List.getElem?_eq_getElem hi, Option.bind_some, wrap_up (show i < 4294967296 by omega)]
    rw [signature_eq (hl _ (List.getElem_mem hi)) m hm]
    simp only [Option.bind_some, inB_get]
    rw [app_eq (by simp; omega)]
    cases op == 14 with
    | true => rfl
    | false => cases (inB m r l[i] == (op == 13)) <;> rfl
  · unfold vec_sets_l49
    rw [show decide ((acc, (l.length : Int)).2 < (l.length : Int)) = false from decide_eq_false (by show ¬ (l.length : Int) < _; omega)]; rfl
  simp only [Option.bind_some, id]
  have hfl := List.length_filter_le (fun x => (op == 14) || (inB m r x == (op == 13))) l
  rw [filter_from r (fun x => (op == 14) && !(inB m l x)) id _ (fun acc i hi ha => ?_) (fun acc => ?_)]
  rotate_left
  · unfold vec_sets_l121
    rw [show decide ((acc, (i : Int)).2 < (r.length : Int)) = true from decide_eq_true (by show (i : Int) < _; omega)]
    simp only [cond_true, ix_nat, List.getElem?_eq_getElem hi, Option.bind_some, wrap_up (show i < 4294967296 by omega)]
    rw [signature_eq (hr _ (List.getElem_mem hi)) m hm]
    simp only [Option.bind_some, inB_get]
    rw [app_eq (by simp; omega)]
    cases op == 14 with
    | true => cases inB m l r[i] <;> rfl
    | false => rfl
  · unfold vec_sets_l121
    rw [show decide ((acc, (r.length : Int)).2 < (r.length : Int)) = false from decide_eq_false (by show ¬ (r.length : Int) < _; omega)]; rfl
  rfl
/-- What a set operator of two vectors answers. -/
noncomputable def binS (op : Int) (m : MT) (l r : List PT) : List PT × Int :=
  if namesB m.f2 = false then ([], 40) else if (vecE l).2 ≠ 0 then ([], (vecE l).2) else if (vecE r).2 ≠ 0 then ([], (vecE r).2) else vecE (setsE op m (vsort l) (vsort r))
theorem vsort_right {l : List PT} (h : ∀ p ∈ l, (rightE p.f0).1 = 0) : ∀ p ∈ vsort l, (rightE p.f0).1 = 0 := fun p hp => h p ((vsort_perm l).mem_iff.1 hp)
theorem Binary_sets {op : Int} (h1 : 13 ≤ op) (h2 : op ≤ 15) (l r : List PT) (on : Bool) (names : List ByteArray) (hn : names.length < 2147480000) :
    vec_Binary op l r (⟨3, on, names, []⟩ : MT) false = some (binS op ⟨3, on, names, []⟩ l r) := by
  unfold vec_Binary binS
  rw [show ((decide (op < 1)) || (decide (op > 15))) = false by rw [decide_eq_false (by omega), decide_eq_false (by omega)]; rfl]
  simp only [cond_false]
  rw [wrong_none (.inl ⟨rfl, h1⟩) hn]
  simp only [Option.bind_some]
  cases hnb : namesB names with
  | false => simp
  | true =>
    rw [if_neg (by simp)]
    simp only [cond_true, bne_self_eq_false, cond_false, Vector_eq, Option.bind_some]
    by_cases hl : (vecE l).2 = 0
    · rw [if_neg (by simpa using hl), show ((vecE l).2 != 0) = false by simpa using hl]
      simp only [cond_false]
      by_cases hr : (vecE r).2 = 0
      · rw [if_neg (by simpa using hr), show ((vecE r).2 != 0) = false by simpa using hr]
        simp only [cond_false]
        rw [show decide (op ≥ 13) = true from decide_eq_true h1]
        simp only [cond_true]
        obtain ⟨a1, a2, a3, a4⟩ := vecE_ok hl
        obtain ⟨b1, b2, b3, b4⟩ := vecE_ok hr
        rw [a4, b4, sets_eq op (vsort_right a2) (vsort_right b2) (by rw [vsort_len]; exact a1) (by rw [vsort_len]; exact b1) (by show names.length < _; omega)]
        simp only [Option.bind_some]
      · rw [if_pos hr, show ((vecE r).2 != 0) = true by simpa using hr]; rfl
    · rw [if_pos hl, show ((vecE l).2 != 0) = true by simpa using hl]; rfl
end Go.Proofs.YtkjkkimnjpodiaaGreatDoor
