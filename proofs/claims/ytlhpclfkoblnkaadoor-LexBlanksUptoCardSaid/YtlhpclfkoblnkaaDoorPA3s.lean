/- Plain laws, base: words of bits; numbers in few bytes. -/
import Derived.Test.YtlhpclfkoblnkaaDoorM1s
import Derived.Test.YtlhpclfkoblnkaaDoorRows
import Derived.Deep.Slices
import Derived.Below
import Derived.Test.YtlhpclfkoblnkaaDoorGB16s
import Derived.Lib.ValidLaws
import Derived.Lib.Bytealg
import Derived.Test.YtlhpclfkoblnkaaDoorL55s
import Derived.KernelRfl
import Derived.Lib.LaidU8T
import Derived.Shelf.Unicode.ValidAny
import Derived.Shelf.Unicode.DecodeAny
/- From data that are read to what the walks ask: rows. -/
set_option linter.unusedVariables false
namespace Go.GB
open Go Go.RowKit
open Go.Proofs.YtlhpclfkoblnkaaDoor.Rows (uptoBulk uptoBulkAll)

def immOf (W : World) : Imm := ⟨fun b => W.heap[b]?, W.os, W.tape, W.output, 0⟩
theorem holds_immOf (W : World) : Holds (immOf W) [] W := ⟨fun _ _ h => h, by simp, by simp, by simp, rfl, rfl, rfl, Nat.zero_le _⟩
theorem below_of {I' : Imm} {L' : Own} {W W' : World} (h : Holds I' L' W') (hI : immOf W ≤ I') : Below W.heap.size W W' := by
  refine ⟨by rw [h.os, hI.os]; rfl, by rw [h.tape, hI.tape]; rfl, by rw [h.out, hI.out]; rfl, ?_, fun k hk => ?_⟩
  · rcases Nat.eq_zero_or_pos W.heap.size with h0 | h0
    · omega
    · have : W.heap[W.heap.size - 1]? = some (W.heap[W.heap.size - 1]'(by omega)) := Array.getElem?_eq_getElem _
      have := lt_of_heap (h.imm _ _ (hI.h _ _ this))
      omega
  · have : W.heap[k]? = some (W.heap[k]) := Array.getElem?_eq_getElem hk
    rw [this]; exact h.imm _ _ (hI.h _ _ this)
theorem imm_cell {W : World} {a : Addr} {v : Value} (h : W.cell? a = some v) : (immOf W).cell a = some v := h
theorem run_of_cells {W : World} {a : Addr} {n : Nat} {cs : List Value} (h : W.cells? 0 a n = some cs) : RunAt (immOf W) a cs := fun j v hj => by
  unfold World.cells? at h
  rw [if_pos (Nat.zero_le _)] at h
  have hl := mapM_some_length h
  have hj' : j < n := by have := (List.getElem?_eq_some_iff.1 hj).1; simpa [hl] using this
  have := mapM_some_get h j j (by simp [hj'])
  exact imm_cell (this.trans hj)

def Reads {α : Type} (P : Program) (T : TypeId) (d : Kd α) (w : α → Nat → Prop) : Prop := ∀ {H : Type} {enc : TypeId × Value → H} {W : World} {spare : Nat → Bool} {held : Bool} {fuel : Nat} {cs : List Value} {x : DataW H × List MemPlace},
  DataW.trod enc P W 0 spare held fuel T cs = some x → uptoBulk x.1 ≤ 1048576 → ∃ y, d.R (immOf W) y cs ∧ w y (uptoBulk x.1)
theorem reads_int {P : Program} {T : TypeId} {k : IntKind} (h : P.underlying T = some (.int k)) : Reads P T (Kd.int k) (wInt k) := fun ht _ => by
  obtain ⟨n, rfl, _, hw⟩ := DataW.trod_int h ht
  simp only [Lit.wf, Bool.and_eq_true, decide_eq_true_eq] at hw
  exact ⟨n, rfl, hw⟩
theorem reads_str {P : Program} {T : TypeId} (h : P.underlying T = some .string) : Reads P T Kd.str wStr := fun ht _ => by
  obtain ⟨n, rfl, rfl, _⟩ := DataW.trod_string h ht
  exact ⟨n, rfl, by simp [uptoBulk, wStr]⟩
theorem bulk_pos {H : Type} (d : DataW H) : 1 ≤ uptoBulk d := by
  cases d with
  | lit l => cases l <;> simp [uptoBulk]
  | _ => simp [uptoBulk]
theorem bulkAll_ge {H : Type} : ∀ (l : List (DataW H)), l.length ≤ uptoBulkAll l
  | [] => by simp
  | d :: r => by have := bulk_pos d; have := bulkAll_ge r; simp only [uptoBulkAll, List.length_cons]; omega
theorem bulkAll_mem {H : Type} {d : DataW H} : ∀ {l : List (DataW H)}, d ∈ l → uptoBulk d ≤ uptoBulkAll l
  | [], h => by cases h
  | e :: r, h => by
    simp only [uptoBulkAll]
    rcases List.mem_cons.1 h with rfl | h
    · omega
    · have := bulkAll_mem h; omega
theorem choose_list {α : Type} {p : Nat → α → Prop} : ∀ (n : Nat), (∀ i, i < n → ∃ y, p i y) → ∃ xs : List α, xs.length = n ∧ ∀ i x, xs[i]? = some x → p i x
  | 0, _ => ⟨[], rfl, fun i x h => by simp at h⟩
  | m + 1, key => by
    obtain ⟨xs, hxl, hx⟩ := choose_list m (fun i hi => key i (by omega))
    obtain ⟨y, hy⟩ := key m (by omega)
    refine ⟨xs ++ [y], by simp [hxl], fun i x h => ?_⟩
    rcases Nat.lt_or_ge i m with hi | hi
    · rw [List.getElem?_append_left (by omega)] at h; exact hx i x h
    · rw [List.getElem?_append_right (by omega), hxl] at h
      have hi0 : i - m = 0 := by have := (List.getElem?_eq_some_iff.1 h).1; simpa using this
      rw [hi0] at h
      simp only [List.getElem?_cons_zero, Option.some.injEq] at h
      subst h
      rw [show i = m from by omega]
      exact hy
theorem wSl_of {α H : Type} {w : α → Nat → Prop} : ∀ (xs : List α) (es : List (DataW H)), xs.length = es.length → (∀ (i : Nat) (x : α) (e : DataW H), xs[i]? = some x → es[i]? = some e → w x (uptoBulk e)) → wSl w xs (uptoBulkAll es)
  | [], _, _, _ => trivial
  | x :: r, [], h, _ => by simp at h
  | x :: r, e :: es, h, hw => ⟨uptoBulk e, uptoBulkAll es, hw 0 x e rfl rfl, wSl_of r es (by simpa using h) (fun i x' e' h1 h2 => hw (i + 1) x' e' (by simpa using h1) (by simpa using h2)), by simp [uptoBulkAll], bulk_pos e⟩
theorem reads_slice {α : Type} {P : Program} {T e : TypeId} {d : Kd α} {w : α → Nat → Prop} (hu : P.underlying T = some (.slice e)) (hn : P.cellsOf e = d.n) (hr : Reads P e d w) : Reads P T (Kd.sl d) (wSl w) := by
  intro H enc W spare held fuel cs x ht hb
  rcases DataW.trod_slice hu ht with ⟨rfl, rfl⟩ | ⟨a, len, cap, elems, rest, n, rfl, rfl, rfl, _, hlc, hcm, hel, hat, _, _⟩
  · exact ⟨[], ⟨none, 0, rfl, RepS.nil _ _⟩, trivial⟩
  · simp only [uptoBulk] at hb
    have hlen := bulkAll_ge (elems.map (·.1))
    rw [List.length_map, hel] at hlen
    have key : ∀ i, i < len → ∃ y, (∃ cs', d.R (immOf W) y cs' ∧ RunAt (immOf W) (a.add (i * d.n)) cs') ∧ ∀ e, (elems.map (·.1))[i]? = some e → w y (uptoBulk e) := fun i hi => by
      have h1 := hat i hi
      have hie : i < elems.length := by omega
      rw [List.getElem?_eq_getElem hie] at h1
      simp only [Option.bind_eq_some_iff] at h1
      obtain ⟨cs', h2, h3⟩ := h1
      obtain ⟨y, hy, hw⟩ := hr h3 (by
        have := bulkAll_mem (l := elems.map (·.1)) (List.mem_map_of_mem (List.getElem_mem hie))
        omega)
      refine ⟨y, ⟨cs', hy, ?_⟩, fun e he => ?_⟩
      · rw [← hn]
        exact run_of_cells h2
      · rw [List.getElem?_map, List.getElem?_eq_getElem hie] at he
        cases he; exact hw
    have hex := choose_list (p := fun i y => (∃ cs', d.R (immOf W) y cs' ∧ RunAt (immOf W) (a.add (i * d.n)) cs') ∧ ∀ e, (elems.map (·.1))[i]? = some e → w y (uptoBulk e)) len key
    obtain ⟨xs, hxl, hx⟩ := hex
    refine ⟨xs, ⟨some a, cap, by rw [hxl], by omega, by unfold maxLen'; omega, fun i x h => ?_⟩, ?_⟩
    · obtain ⟨⟨cs', h1, h2⟩, _⟩ := hx i x h
      exact ⟨a, cs', rfl, h1, h2⟩
    · exact (wSl_of xs (elems.map (·.1)) (by simp [hxl, hel]) (fun i x e h1 h2 => (hx i x h1).2 e h2)).le (by simp only [uptoBulk]; omega)
theorem pairR {α β : Type} {a : Kd α} {b : Kd β} {I : Imm} {x : α} {y : β} {cs : List Value} {o n m : Nat} (h0 : a.R I x ((cs.drop o).take n)) (h1 : b.R I y (cs.drop m)) (hm : m = o + n) : (Kd.pair a b).R I (x, y) (cs.drop o) := by
  subst hm
  exact ⟨(cs.drop o).take n, (cs.drop o).drop n, (List.take_append_drop _ _).symm, h0, by rw [List.drop_drop]; exact h1⟩
theorem lastR {α : Type} {a : Kd α} {I : Imm} {x : α} {cs : List Value} {o n : Nat} (h : a.R I x ((cs.drop o).take n)) (hl : cs.length = o + n) : a.R I x (cs.drop o) := by
  rwa [List.take_of_length_le (by rw [List.length_drop]; omega)] at h
def fieldD (P : Program) (T : TypeId) (i : Nat) : Field := (P.fieldsOf T).getD i default
/-- A field of a struct that is read. -/
theorem field_read {α : Type} {H : Type} {enc : TypeId × Value → H} {P : Program} {W : World} {spare : Nat → Bool} {held : Bool} {m : Nat} {T t : TypeId} {d : Kd α} {w : α → Nat → Prop} {cs : List Value} {xs : List (DataW H × List MemPlace)} {x : DataW H × List MemPlace} {i o n : Nat}
    (hf : ∀ (i : Nat) (f : Field), (P.fieldsOf T)[i]? = some f → DataW.trod enc P W 0 spare held m f.type ((cs.drop f.offset).take (P.cellsOf f.type)) = xs[i]?)
    (hx : xs[i]? = some x) (h1 : (P.fieldsOf T)[i]? = some (fieldD P T i)) (h2 : (fieldD P T i).type = t) (h3 : (fieldD P T i).offset = o) (h4 : P.cellsOf t = n) (hr : Reads P t d w) (hb : uptoBulk x.1 ≤ 1048576) : ∃ y, d.R (immOf W) y ((cs.drop o).take n) ∧ w y (uptoBulk x.1) := by
  have := hf i _ h1
  rw [hx, h2, h3, h4] at this
  exact hr this hb
theorem calls_of {P : Program} {f : FuncId} {args : Array Value} {W : World} {b : Value} (h : CallsTo P f args (immOf W) [] (fun v I' L' => v = b ∧ [] = L')) : Calls P f args W fun e W' => e = .returned b ∧ Below W.heap.size W W' :=
  (h W (holds_immOf W)).mono fun e W' ⟨v, I', L', he, hI, hh, hv, _⟩ => ⟨by rw [he, hv], below_of hh hI⟩
end Go.GB

/- Functions that can be run out: twins with a bound on rounds. -/
set_option linter.unusedVariables false
namespace Go.GB
def loopF {σ ρ : Type} : Nat → (σ → Option (σ ⊕ ρ)) → σ → Option ρ
  | 0, _, _ => none
  | n + 1, body, s => match body s with
    | none => none
    | some (.inr r) => some r
    | some (.inl s') => loopF n body s'
def OLe {α : Type} (x y : Option α) : Prop := ∀ r, x = some r → y = some r
theorem OLe.refl {α : Type} (x : Option α) : OLe x x := fun _ h => h
theorem OLe.bind {α β : Type} {x y : Option α} {f g : α → Option β} (h : OLe x y) (hf : ∀ a, OLe (f a) (g a)) : OLe (Option.bind x f) (Option.bind y g) := fun r hr => by
  obtain ⟨a, ha, hb⟩ := bind_some hr
  rw [h a ha]; exact hf a r hb
theorem OLe.cond {α : Type} {b : Bool} {x y x' y' : Option α} (h : OLe x x') (h' : OLe y y') : OLe (bif b then x else y) (bif b then x' else y') := by
  cases b
  · exact h'
  · exact h
theorem loopF_R {σ ρ : Type} {body body' : σ → Option (σ ⊕ ρ)} (h : ∀ s, OLe (body s) (body' s)) : ∀ (n : Nat) (s : σ) (r : ρ), loopF n body s = some r → LoopR body' s r
  | 0, _, _, hr => by cases hr
  | n + 1, s, r, hr => by
    unfold loopF at hr
    cases hb : body s with
    | none => rw [hb] at hr; cases hr
    | some o =>
      rw [hb] at hr
      cases o with
      | inl s' => exact .step (h s _ hb) (loopF_R h n s' r hr)
      | inr r' => cases hr; exact .done (h s _ hb)
theorem OLe.loop {σ ρ : Type} {body body' : σ → Option (σ ⊕ ρ)} {n : Nat} {s : σ} (h : ∀ s, OLe (body s) (body' s)) : OLe (loopF n body s) (loopO body' s) := fun r hr => loopO_of (loopF_R h n s r hr)

/-! ### Loops that go up -/
end Go.GB

/- What plain functions come to: a calculus for 'it answers, and its answer is ..'. -/
set_option linter.unusedVariables false
namespace Go.GB
theorem wrap_up {i : Nat} (h : i < 4294967296) : IntKind.wrap .i64 ((i : Int) + 1) = ((i + 1 : Nat) : Int) := by rw [wrap64 (by omega) (by omega)]; omega
theorem ix_nat {α : Type} (xs : List α) (i : Nat) : ix xs (i : Int) = xs[i]? := by simp [ix]
theorem size_zero_iff {s : ByteArray} : (s.toList == (⟨#[]⟩ : ByteArray).toList) = decide (s.size = 0) := by
  rw [ByteArray.toList_eq, ByteArray.toList_eq]
  obtain ⟨⟨l⟩⟩ := s
  cases l <;> rfl
theorem toList_inj {a b : ByteArray} : (a.toList == b.toList) = true ↔ a = b := by
  rw [ByteArray.toList_eq, ByteArray.toList_eq]
  obtain ⟨⟨x⟩⟩ := a
  obtain ⟨⟨y⟩⟩ := b
  simp
end Go.GB

/- Plain laws, base: loops that are alike; searches; words of bits. -/
set_option linter.unusedVariables false
namespace Go.GB
/-- One round. -/
theorem loopO_step {σ ρ : Type} {b : σ → Option (σ ⊕ ρ)} {s s' : σ} (h : b s = some (.inl s')) : loopO b s = loopO b s' := by rw [loopO_eq, h]; rfl
theorem loopO_done {σ ρ : Type} {b : σ → Option (σ ⊕ ρ)} {s : σ} {r : ρ} (h : b s = some (.inr r)) : loopO b s = some r := by rw [loopO_eq, h]; rfl
/-- A search that goes up: the first place at which there is something to tell. -/
theorem up_find {ρ : Type} {body : Int → Option (Int ⊕ (Unit ⊕ ρ))} {n : Nat} (p : Nat → Option ρ) (h : ∀ i : Nat, i < n → body i = some (match p i with | some r => .inr (.inr r) | none => .inl ((i + 1 : Nat) : Int))) (he : body n = some (.inr (.inl ()))) :
    loopO body 0 = some (match (List.range n).findSome? p with | some r => .inr r | none => .inl ()) := by
  have key : ∀ d i : Nat, i + d = n → loopO body i = some (match (List.range' i d).findSome? p with | some r => .inr r | none => .inl ()) := by
    intro d
    induction d with
    | zero =>
      intro i hi
      have : i = n := by omega
      subst this
      simp [loopO_done he]
    | succ d ih =>
      intro i hi
      have h1 := h i (by omega)
      rw [List.range'_succ, List.findSome?_cons]
      cases hp : p i with
      | some r => rw [hp] at h1; rw [loopO_done h1]
      | none => rw [hp] at h1; rw [loopO_step h1]; exact ih (i + 1) (by omega)
  have := key n 0 (by omega)
  rw [List.range_eq_range']
  exact this
/-- All of a list, by a loop that goes up. -/
theorem up_all {body : Int → Option (Int ⊕ (Unit ⊕ Bool))} {n : Nat} (q : Nat → Bool) (h : ∀ i : Nat, i < n → body i = some (bif q i then .inl ((i + 1 : Nat) : Int) else .inr (.inr false))) (he : body n = some (.inr (.inl ()))) :
    loopO body 0 = some (if (List.range n).all q then .inl () else .inr false) := by
  rw [up_find (fun i => if q i then none else some false) (fun i hi => by rw [h i hi]; cases q i <;> rfl) he]
  congr 1
  by_cases ha : (List.range n).all q = true
  · rw [if_pos ha]
    have : (List.range n).findSome? (fun i => if q i then none else some false) = none := by
      rw [List.findSome?_eq_none_iff]
      intro i hi
      rw [if_pos (List.all_eq_true.1 ha i hi)]
    rw [this]
  · rw [if_neg ha]
    have hx : (List.range n).all q = false := by simpa using ha
    rw [List.all_eq_false] at hx
    obtain ⟨i, hi, hq⟩ := hx
    cases hf : (List.range n).findSome? (fun i => if q i then none else some false) with
    | none =>
      rw [List.findSome?_eq_none_iff] at hf
      have := hf i hi
      rw [if_neg hq] at this; cases this
    | some b =>
      obtain ⟨j, _, hj⟩ := List.exists_of_findSome?_eq_some hf
      split at hj <;> cases hj
      rfl
theorem wrapU8 {x : Int} (h : 0 ≤ x) (h' : x < 256) : IntKind.wrap .u8 x = x := by
  unfold IntKind.wrap
  simp [IntKind.bits, IntKind.signed]
  omega
theorem wrapU8_eq (x : Int) : IntKind.wrap .u8 x = x % 256 := by
  unfold IntKind.wrap
  simp [IntKind.bits, IntKind.signed]
theorem and63 : ∀ c : Fin 256, bitAnd .u8 ((c.val : Nat) : Int) 63 = ((c.val % 64 : Nat) : Int) := by decide +kernel
theorem bx_at {s : ByteArray} {i : Nat} (h : i < s.size) : bx s (i : Int) = some (((s.data.toList.getD i 0).toNat : Nat) : Int) := by
  unfold bx
  rw [if_pos ⟨by omega, by omega⟩]
  unfold byteAt
  rw [Int.toNat_natCast]
  simp [List.getD_eq_getElem?_getD]
theorem size_list (s : ByteArray) : s.data.toList.length = s.size := by rw [Array.length_toList]; rfl
theorem nil_size (s : ByteArray) : (s.toList == (⟨#[]⟩ : ByteArray).toList) = decide (s.size = 0) := size_zero_iff
end Go.GB

set_option linter.unusedVariables false
namespace Go.GB
/-! bytes -/
def letN (c : Nat) : Bool := decide (97 ≤ c ∧ c ≤ 122) || decide (65 ≤ c ∧ c ≤ 90) || decide (c = 95) || decide (c = 58)
def digN (c : Nat) : Bool := decide (48 ≤ c ∧ c ≤ 57)
def hexN (c : Nat) : Bool := digN c || decide (97 ≤ c ∧ c ≤ 102) || decide (65 ≤ c ∧ c ≤ 70)
def lowN (c : Nat) : Bool := decide (97 ≤ c ∧ c ≤ 122)
/-- how many bytes of a kind stand ahead -/
def runL (p : Nat → Bool) (l : List UInt8) : Nat := (l.takeWhile fun c => p c.toNat).length
/-- the byte at a place; 0 behind the end -/
def gB (l : List UInt8) (i : Nat) : Nat := (l.getD i 0).toNat
theorem gB_drop (l : List UInt8) (a i : Nat) : gB (l.drop a) i = gB l (a + i) := by simp [gB, List.getD, List.getElem?_drop]
theorem runL_nil (p : Nat → Bool) : runL p [] = 0 := rfl
theorem runL_le (p : Nat → Bool) (l : List UInt8) : runL p l ≤ l.length := by
  unfold runL; exact (List.takeWhile_sublist _).length_le
theorem runL_cons (p : Nat → Bool) (c : UInt8) (l : List UInt8) : runL p (c :: l) = if p c.toNat then runL p l + 1 else 0 := by
  unfold runL; rw [List.takeWhile_cons]; split <;> simp
/-- a place within the run -/
theorem runL_in {p : Nat → Bool} {l : List UInt8} {i : Nat} (h : i < runL p l) : i < l.length ∧ p (gB l i) = true := by
  induction l generalizing i with
  | nil => simp [runL] at h
  | cons c l ih =>
    rw [runL_cons] at h
    split at h
    · rename_i hc
      cases i with
      | zero => exact ⟨by simp, by simpa [gB] using hc⟩
      | succ i =>
        obtain ⟨h1, h2⟩ := ih (by omega : i < runL p l)
        exact ⟨by simp; omega, by simpa [gB] using h2⟩
    · omega
theorem runL_end {p : Nat → Bool} {l : List UInt8} (h : runL p l < l.length) : p (gB l (runL p l)) = false := by
  induction l with
  | nil => simp at h
  | cons c l ih =>
    rw [runL_cons] at h ⊢
    split
    · rename_i hc
      rw [if_pos hc] at h
      have := ih (by simpa using h)
      simpa [gB] using this
    · rename_i hc; simpa [gB] using hc
theorem runL_step {p : Nat → Bool} {l : List UInt8} {i : Nat} (hi : i < l.length) : runL p (l.drop i) = if p (gB l i) then runL p (l.drop (i + 1)) + 1 else 0 := by
  rw [List.drop_eq_getElem_cons hi, runL_cons]
  simp [gB, List.getD, List.getElem?_eq_getElem hi]
theorem runL_out {p : Nat → Bool} {l : List UInt8} {i : Nat} (hi : l.length ≤ i) : runL p (l.drop i) = 0 := by rw [List.drop_eq_nil_of_le hi]; rfl
/-! numbers -/
def expK (l : List UInt8) (n : Nat) : Nat := if gB l (n + 1) = 43 ∨ gB l (n + 1) = 45 then n + 2 else n + 1
def expL (l : List UInt8) (n : Nat) : Nat :=
  if gB l n = 101 ∨ gB l n = 69 then (if 0 < runL digN (l.drop (expK l n)) then expK l n + runL digN (l.drop (expK l n)) else n) else n
def numA (l : List UInt8) (a : Nat) : Nat := if gB l a = 46 then (if a + runL digN (l.drop (a + 1)) = 0 then 0 else a + 1 + runL digN (l.drop (a + 1))) else a
def numL (l : List UInt8) : Nat :=
  if gB l 0 = 48 ∧ (gB l 1 = 120 ∨ gB l 1 = 88) ∧ 0 < runL hexN (l.drop 2) then 2 + runL hexN (l.drop 2)
  else if numA l (runL digN l) = 0 then 0 else expL l (numA l (runL digN l))
end Go.GB

set_option linter.unusedVariables false
namespace Go.GB
open Go.Lib
theorem take_getD {a b : List UInt8} {w i : Nat} (h : b.take w = a.take w) (hi : i < w) : b.getD i 0 = a.getD i 0 := by
  have h1 : (b.take w)[i]? = (a.take w)[i]? := by rw [h]
  rw [List.getElem?_take, List.getElem?_take, if_pos hi, if_pos hi] at h1
  simp [List.getD, h1]
theorem take_len {a b : List UInt8} {w : Nat} (h : b.take w = a.take w) (hl : w ≤ a.length) : w ≤ b.length := by
  have := congrArg List.length h
  simp at this; omega
set_option maxRecDepth 100000 in
/-- a rune that is right is read of its own bytes alone -/
theorem decode_ext {a b : List UInt8} (ha : ¬ ((decodeL a).1 = 65533 ∧ (decodeL a).2 = 1)) (hl : (decodeL a).2 ≤ a.length) (h : b.take (decodeL a).2 = a.take (decodeL a).2) : decodeL b = decodeL a := by
  have hb := take_len h hl
  rw [decodeL_N a] at *
  rw [decodeL_N b]
  rcases decodeN_shape a.length (a.getD 0 0).toNat (a.getD 1 0).toNat (a.getD 2 0).toNat (a.getD 3 0).toNat with ⟨c, e⟩ | ⟨c1, c2, c3, cv, e⟩ | ⟨c1, c2, c3, c4, cv, cs, e⟩ | ⟨c1, c2, c3, c4, c5, cv, cw, e⟩ | e
  · rw [e] at h hb ⊢
    rw [take_getD h (i := 0) (by omega)]
    unfold decodeN; rw [if_pos c]
  · rw [e] at h hb ⊢
    rw [take_getD h (i := 0) (by omega), take_getD h (i := 1) (by omega)]
    dsimp only at hb
    unfold decodeN
    rw [if_neg (by omega), if_pos ⟨c1, by omega, c3⟩, if_pos (by omega)]
  · rw [e] at h hb ⊢
    rw [take_getD h (i := 0) (by omega), take_getD h (i := 1) (by omega), take_getD h (i := 2) (by omega)]
    dsimp only at hb
    unfold decodeN
    rw [if_neg (by omega), if_neg (by omega), if_pos ⟨c1, ⟨by omega, c3⟩, by omega, c4⟩, if_pos ⟨by omega, by omega⟩]
  · rw [e] at h hb ⊢
    rw [take_getD h (i := 0) (by omega), take_getD h (i := 1) (by omega), take_getD h (i := 2) (by omega), take_getD h (i := 3) (by omega)]
    dsimp only at hb
    unfold decodeN
    rw [if_neg (by omega), if_neg (by omega), if_neg (by omega), if_pos ⟨c1, ⟨by omega, c3⟩, ⟨by omega, c4⟩, by omega, c5⟩, if_pos ⟨by omega, by omega⟩]
  · rw [e] at ha; exact absurd ⟨rfl, rfl⟩ ha
/-- the bytes of a right rune behind its first one are from 128 on; so is the first one, if there are more -/
theorem decode_high {l : List UInt8} {i : Nat} (hi : i < (decodeL l).2) (h1 : (decodeL l).2 ≠ 1) : 128 ≤ gB l i := by
  unfold gB
  rw [decodeL_N l] at *
  rcases decodeN_shape l.length (l.getD 0 0).toNat (l.getD 1 0).toNat (l.getD 2 0).toNat (l.getD 3 0).toNat with ⟨c, e⟩ | ⟨c1, c2, c3, cv, e⟩ | ⟨c1, c2, c3, c4, cv, cs, e⟩ | ⟨c1, c2, c3, c4, c5, cv, cw, e⟩ | e
  all_goals (rw [e] at hi h1; dsimp only at hi h1)
  · omega
  · rcases (by omega : i = 0 ∨ i = 1) with rfl | rfl <;> omega
  · rcases (by omega : i = 0 ∨ i = 1 ∨ i = 2) with rfl | rfl | rfl <;> omega
  · rcases (by omega : i = 0 ∨ i = 1 ∨ i = 2 ∨ i = 3) with rfl | rfl | rfl | rfl <;> omega
  · omega
theorem decode_ascii {l : List UInt8} (h : gB l 0 < 128) : decodeL l = (gB l 0, 1) := by
  rw [decodeL_N, decodeN, if_pos (show (l.getD 0 0).toNat < 128 from h)]; rfl
theorem decode_big {l : List UInt8} (h : 128 ≤ gB l 0) : 128 ≤ (decodeL l).1 := by
  unfold gB at h
  rw [decodeL_N]
  rcases decodeN_shape l.length (l.getD 0 0).toNat (l.getD 1 0).toNat (l.getD 2 0).toNat (l.getD 3 0).toNat with ⟨c, e⟩ | ⟨c1, c2, c3, cv, e⟩ | ⟨c1, c2, c3, c4, cv, cs, e⟩ | ⟨c1, c2, c3, c4, c5, cv, cw, e⟩ | e
  all_goals (rw [e]; dsimp only; omega)
theorem decode_one {l : List UInt8} (h : 128 ≤ gB l 0) (h1 : (decodeL l).2 = 1) : (decodeL l).1 = 65533 := by
  unfold gB at h
  rw [decodeL_N] at *
  rcases decodeN_shape l.length (l.getD 0 0).toNat (l.getD 1 0).toNat (l.getD 2 0).toNat (l.getD 3 0).toNat with ⟨c, e⟩ | ⟨c1, c2, c3, cv, e⟩ | ⟨c1, c2, c3, c4, cv, cs, e⟩ | ⟨c1, c2, c3, c4, c5, cv, cw, e⟩ | e
  all_goals (rw [e] at h1 ⊢)
  all_goals (dsimp only at h1 ⊢; try omega)
theorem validD_low {l : List UInt8} (hl : l ≠ []) (h : gB l 0 < 128) : validD l = validD (l.drop 1) := by
  obtain ⟨c, t, rfl⟩ := List.exists_cons_of_ne_nil hl
  exact validD_cons c t h
theorem validD_rune {l x : List UInt8} (hv : ¬ ((decodeL l).1 = 65533 ∧ (decodeL l).2 = 1)) (hl : l ≠ []) : validD (l.take (decodeL l).2 ++ x) = validD x := by
  have hle := decodeL_le l hl
  have hw := decodeL_width l
  have e : (l.take (decodeL l).2 ++ x).take (decodeL l).2 = l.take (decodeL l).2 := by rw [List.take_left' (by rw [List.length_take]; omega)]
  have hd := decode_ext hv hle e
  rw [validD_step _ (by intro h; have := congrArg List.length h; rw [List.length_append, List.length_take, List.length_nil] at this; have := List.length_pos_iff.2 hl; omega), hd, if_neg hv, List.drop_left' (by rw [List.length_take]; omega)]

/-! ### texts in quotes -/
def hexV (c : Nat) : Nat := if c ≤ 57 then c - 48 else if c ≤ 70 then c - 55 else c - 87
def escL (l : List UInt8) : Option (UInt8 × Nat) :=
  if gB l 0 = 110 then some (10, 1) else if gB l 0 = 92 ∨ gB l 0 = 34 ∨ gB l 0 = 39 then some (l.getD 0 0, 1) else if gB l 0 = 116 then some (9, 1) else if gB l 0 = 114 then some (13, 1)
  else if gB l 0 = 120 ∧ hexN (gB l 1) = true ∧ hexN (gB l 2) = true ∧ gB l 1 ≤ 55 then some (UInt8.ofNat (16 * hexV (gB l 1) + hexV (gB l 2)), 3) else none
theorem escL_low {l : List UInt8} {x : UInt8} {k : Nat} (h : escL l = some (x, k)) : x.toNat < 128 ∧ 1 ≤ k ∧ k ≤ l.length ∧ ∀ i, i < k → gB l i < 128 := by
  have g0 : ∀ i, 0 < gB l i → i < l.length := fun i hi => by
    rcases Nat.lt_or_ge i l.length with h | h
    · exact h
    · unfold gB at hi; rw [List.getD_eq_getElem?_getD, List.getElem?_eq_none h] at hi; simp at hi
  have hx : ∀ c, hexN c = true → 48 ≤ c ∧ c ≤ 102 ∧ hexV c < 16 := by
    intro c hc
    unfold hexN digN at hc
    unfold hexV
    simp only [Bool.or_eq_true, decide_eq_true_eq] at hc
    split <;> (try split) <;> omega
  unfold escL at h
  split at h
  · cases h; exact ⟨by decide, by omega, g0 0 (by omega), fun i hi => by
      have h00 : i = 0 := by omega
      rw [h00]; omega⟩
  split at h
  · cases h
    rename_i h2
    exact ⟨by show gB l 0 < 128; omega, by omega, g0 0 (by omega), fun i hi => by
      have h00 : i = 0 := by omega
      rw [h00]; omega⟩
  split at h
  · cases h; exact ⟨by decide, by omega, g0 0 (by omega), fun i hi => by
      have h00 : i = 0 := by omega
      rw [h00]; omega⟩
  split at h
  · cases h; exact ⟨by decide, by omega, g0 0 (by omega), fun i hi => by
      have h00 : i = 0 := by omega
      rw [h00]; omega⟩
  split at h
  · cases h
    rename_i h2
    obtain ⟨h3, h4, h5, h6⟩ := h2
    have a1 := hx _ h4
    have a2 := hx _ h5
    have a3 : hexV (gB l 1) < 8 := by unfold hexV; split <;> omega
    refine ⟨?_, by omega, g0 2 (by omega), fun i hi => ?_⟩
    · rw [UInt8.toNat_ofNat']; omega
    · rcases (by omega : i = 0 ∨ i = 1 ∨ i = 2) with rfl | rfl | rfl <;> omega
  · cases h
def textR (q : Nat) (l : List UInt8) : Option (List UInt8 × Nat) :=
  if hl : l = [] then none
  else if gB l 0 = q then some ([], 1)
  else if gB l 0 = 10 then none
  else if gB l 0 = 92 then match escL (l.drop 1) with
    | none => none
    | some (x, k) => (textR q (l.drop (1 + k))).map fun o => (x :: o.1, o.2 + (1 + k))
  else (textR q (l.drop 1)).map fun o => (l.getD 0 0 :: o.1, o.2 + 1)
termination_by l.length
decreasing_by all_goals (have := List.length_pos_iff.2 hl; rw [List.length_drop]; omega)
/-- the same, rune by rune -/
def textP (q : Nat) (l : List UInt8) : Option (List UInt8 × Nat) :=
  if hl : l = [] then none
  else if (decodeL l).1 = q then some ([], 1)
  else if ((decodeL l).1 = 65533 ∧ (decodeL l).2 = 1) ∨ (decodeL l).1 = 10 then none
  else if (decodeL l).1 = 92 then match escL (l.drop 1) with
    | none => none
    | some (x, k) => (textP q (l.drop (1 + k))).map fun o => (x :: o.1, o.2 + (1 + k))
  else (textP q (l.drop (decodeL l).2)).map fun o => (l.take (decodeL l).2 ++ o.1, o.2 + (decodeL l).2)
termination_by l.length
decreasing_by all_goals (have := List.length_pos_iff.2 hl; have := decodeL_width l; rw [List.length_drop]; omega)
theorem textR_pos {q : Nat} {l : List UInt8} {o : List UInt8} {n : Nat} (h : textR q l = some (o, n)) : 1 ≤ n ∧ n ≤ l.length := by
  induction hm : l.length using Nat.strongRecOn generalizing l o n with
  | _ m ih =>
    rw [textR] at h
    split at h
    · cases h
    rename_i hl
    have hp := List.length_pos_iff.2 hl
    split at h
    · cases h; omega
    split at h
    · cases h
    split at h
    · split at h
      · cases h
      · rename_i x k he
        obtain ⟨⟨o', n'⟩, h1, h2⟩ := Option.map_eq_some_iff.1 h
        cases h2
        have hk := escL_low he
        have := ih _ (by rw [List.length_drop]; omega) h1 rfl
        rw [List.length_drop] at this hk
        omega
    · obtain ⟨⟨o', n'⟩, h1, h2⟩ := Option.map_eq_some_iff.1 h
      cases h2
      have := ih _ (by rw [List.length_drop]; omega) h1 rfl
      rw [List.length_drop] at this
      omega
/-- bytes from 128 on are taken one by one -/
theorem textR_high {q : Nat} (hq : q < 128) : ∀ (w : Nat) (l : List UInt8), w ≤ l.length → (∀ i, i < w → 128 ≤ gB l i) → textR q l = (textR q (l.drop w)).map fun o => (l.take w ++ o.1, o.2 + w)
  | 0, l, _, _ => by simp
  | w + 1, l, hl, h => by
    have h0 := h 0 (by omega)
    have hne : l ≠ [] := by intro e; subst e; simp at hl
    rw [textR, dif_neg hne, if_neg (by omega), if_neg (by omega), if_neg (by omega)]
    have e := textR_high hq w (l.drop 1) (by rw [List.length_drop]; omega) (fun i hi => by rw [gB_drop]; exact h _ (by omega))
    rw [e, List.drop_drop, Option.map_map]
    obtain ⟨c, t, rfl⟩ := List.exists_cons_of_ne_nil hne
    simp only [List.drop_succ_cons, List.drop_zero, List.take_succ_cons, Nat.add_comm 1 w]
    refine congrArg (fun f => Option.map f (textR q (List.drop w t))) ?_
    funext o
    show ((c :: t).getD 0 0 :: (List.take w t ++ o.1), o.2 + w + 1) = (c :: List.take w t ++ o.1, o.2 + (w + 1))
    rw [Nat.add_assoc]; rfl
theorem textP_eq {q : Nat} (hq : q < 128) (l : List UInt8) : textP q l = match textR q l with
    | none => none
    | some (o, n) => if validD o = true ∧ validD (l.take (n - 1)) = true then some (o, n) else none := by
  induction hm : l.length using Nat.strongRecOn generalizing l with
  | _ m ih =>
    by_cases hl : l = []
    · subst hl; rw [textP, textR]; simp
    have hp := List.length_pos_iff.2 hl
    by_cases h0 : gB l 0 < 128
    · rw [textP, textR, dif_neg hl, dif_neg hl, decode_ascii h0]
      by_cases hc : gB l 0 = q
      · rw [if_pos hc, if_pos hc]; simp [validD_nil]
      rw [if_neg hc, if_neg hc]
      by_cases h10 : gB l 0 = 10
      · rw [if_pos (Or.inr h10), if_pos h10]
      have h11 : ¬ ((gB l 0 = 65533 ∧ (1 : Nat) = 1) ∨ gB l 0 = 10) := by omega
      rw [if_neg h11, if_neg h10]
      by_cases h92 : gB l 0 = 92
      · rw [if_pos h92, if_pos h92]
        cases he : escL (l.drop 1) with
        | none => rfl
        | some xk =>
          obtain ⟨x, k⟩ := xk
          simp only
          have hk := escL_low he
          rw [List.length_drop] at hk
          rw [ih _ (by rw [List.length_drop]; omega) (l.drop (1 + k)) rfl]
          cases hr : textR q (l.drop (1 + k)) with
          | none => rfl
          | some on =>
            obtain ⟨o, n⟩ := on
            have hn := textR_pos hr
            rw [List.length_drop] at hn
            simp only [Option.map_some]
            have e1 : validD (x :: o) = validD o := validD_cons x o hk.1
            have e2 : validD (l.take (n + (1 + k) - 1)) = validD ((l.drop (1 + k)).take (n - 1)) := by
              rw [validD_ascii (1 + k) (l.take (n + (1 + k) - 1)) (fun b hb => ?_)]
              · rw [List.drop_take, show n + (1 + k) - 1 - (1 + k) = n - 1 from by omega]
              · rw [List.take_take] at hb
                obtain ⟨i, hi, rfl⟩ := List.getElem_of_mem hb
                rw [List.length_take] at hi
                have hg : (List.take (min (1 + k) (n + (1 + k) - 1)) l)[i].toNat = gB l i := by
                  rw [List.getElem_take]; simp [gB, List.getD, List.getElem?_eq_getElem (show i < l.length by omega)]
                rw [hg]
                rcases Nat.eq_zero_or_pos i with rfl | hip
                · exact h0
                · have := hk.2.2.2 (i - 1) (by omega)
                  rw [gB_drop, show 1 + (i - 1) = i from by omega] at this
                  exact this
            rw [e1, e2]
            split <;> rfl
      · rw [if_neg h92, if_neg h92]
        rw [ih _ (by rw [List.length_drop]; omega) (l.drop 1) rfl]
        cases hr : textR q (l.drop 1) with
        | none => rfl
        | some on =>
          obtain ⟨o, n⟩ := on
          have hn := textR_pos hr
          rw [List.length_drop] at hn
          simp only [Option.map_some]
          have e1 : validD (l.getD 0 0 :: o) = validD o := validD_cons _ o h0
          have e2 : validD (l.take (n + 1 - 1)) = validD ((l.drop 1).take (n - 1)) := by
            have g0 : gB (l.take (n + 1 - 1)) 0 = gB l 0 := by
              unfold gB; rw [List.getD_eq_getElem?_getD, List.getElem?_take, if_pos (by omega), List.getD_eq_getElem?_getD]
            rw [validD_low (by intro h; have := congrArg List.length h; rw [List.length_take, List.length_nil] at this; omega) (by rw [g0]; exact h0), List.drop_take]
            rfl
          rw [e1, e2]
          obtain ⟨c, t, rfl⟩ := List.exists_cons_of_ne_nil hl
          simp only [List.take_succ_cons, List.take_zero, List.singleton_append, List.cons_append, List.nil_append]
          split <;> rfl
    · have h0' : 128 ≤ gB l 0 := by omega
      have hbig := decode_big h0'
      rw [textP, dif_neg hl, if_neg (by omega)]
      by_cases hv : (decodeL l).1 = 65533 ∧ (decodeL l).2 = 1
      · rw [if_pos (.inl hv)]
        cases hr : textR q l with
        | none => rfl
        | some on =>
          obtain ⟨o, n⟩ := on
          have hn := textR_pos hr
          have hn2 : 2 ≤ n := by
            rw [textR_high hq 1 l (by omega) (fun i hi => by
      have h00 : i = 0 := by omega
      rw [h00]; exact h0')] at hr
            obtain ⟨⟨o', n'⟩, h1, h2⟩ := Option.map_eq_some_iff.1 hr
            cases h2
            have := textR_pos h1
            omega
          have : validD (l.take (n - 1)) = false := by
            have hne : l.take (n - 1) ≠ [] := by intro h; have := congrArg List.length h; rw [List.length_take, List.length_nil] at this; omega
            rw [validD_step _ hne]
            by_cases hd : (decodeL (l.take (n - 1))).1 = 65533 ∧ (decodeL (l.take (n - 1))).2 = 1
            · rw [if_pos hd]
            · have hle := decodeL_le _ hne
              have hle2 := hle
              rw [List.length_take] at hle2
              have := decode_ext (b := l) hd hle (by rw [List.take_take, Nat.min_eq_left (by omega)])
              rw [this] at hv; exact absurd hv hd
          simp [this]
      · rw [if_neg (by omega), if_neg (by omega)]
        have h1 : (decodeL l).2 ≠ 1 := fun h => hv ⟨decode_one h0' h, h⟩
        have hw := decodeL_width l
        have hle := decodeL_le l hl
        rw [textR_high hq (decodeL l).2 l hle (fun i hi => decode_high hi h1), ih _ (by rw [List.length_drop]; omega) (l.drop (decodeL l).2) rfl]
        cases hr : textR q (l.drop (decodeL l).2) with
        | none => rfl
        | some on =>
          obtain ⟨o, n⟩ := on
          have hn := textR_pos hr
          simp only [Option.map_some]
          have e1 : validD (l.take (decodeL l).2 ++ o) = validD o := validD_rune hv hl
          have e2 : validD (l.take (n + (decodeL l).2 - 1)) = validD ((l.drop (decodeL l).2).take (n - 1)) := by
            have e3 : l.take (n + (decodeL l).2 - 1) = l.take (decodeL l).2 ++ (l.drop (decodeL l).2).take (n - 1) := by
              rw [show n + (decodeL l).2 - 1 = (decodeL l).2 + (n - 1) from by omega, List.take_add]
            rw [e3, validD_rune hv hl]
          rw [e1, e2]
          split <;> rfl
end Go.GB

/- Plain laws: durations, signs, tokens, over lists of bytes; where the document goes another way and comes to the same. -/
set_option linter.unusedVariables false
namespace Go.GB
open Go.Lib
theorem gBn_out {l : List UInt8} {i : Nat} (h : l.length ≤ i) : gB l i = 0 := by unfold gB; rw [List.getD_eq_getElem?_getD, List.getElem?_eq_none h]; rfl
theorem gBn_in {l : List UInt8} {i : Nat} (h : 0 < gB l i) : i < l.length := by
  rcases Nat.lt_or_ge i l.length with h1 | h1
  · exact h1
  · rw [gBn_out h1] at h; omega
/-! ### durations -/
def unitsL : List (List UInt8) := [[121], [119], [100], [104], [109], [115], [109, 115]]
def msL : List Nat := [31536000000, 604800000, 86400000, 3600000, 60000, 1000, 1]
def uName (i : Nat) : List UInt8 := unitsL.getD i []
def uMs (i : Nat) : Nat := msL.getD i 0
/-- the unit that is just the letters that stand ahead, from the place 'first' on -/
def unitL (l : List UInt8) (first : Nat) : Option Nat := (List.range 7).find? fun i => decide (first ≤ i) && (l.take (runL lowN l) == uName i)
/-- the document's: a unit that stands ahead -/
def unitR (l : List UInt8) (first : Nat) : Option Nat := (List.range 7).find? fun i => decide (first ≤ i) && ((uName i).isPrefixOf l && !(i == 4 && decide (gB l 1 = 115)))
def maxS : Nat := 1099511627776
def timesL (d : List UInt8) (ms : Nat) : Nat :=
  (let n := d.foldl (fun n c => min (n * 10 + (c.toNat - 48)) (maxS + 1)) 0
   if n > maxS / ms + 1 then maxS + 1 else min (n * ms) (maxS + 1))
def spanGo : Nat → List UInt8 → Nat → Nat → Nat × Nat
  | 0, _, _, sum => (0, sum)
  | f + 1, l, first, sum =>
    if runL digN l = 0 then (0, sum) else match unitL (l.drop (runL digN l)) first with
      | none => (0, sum)
      | some i =>
        (let r := spanGo f (l.drop (runL digN l + (uName i).length)) (i + 1) (min (sum + timesL (l.take (runL digN l)) (uMs i)) (maxS + 1))
         (runL digN l + (uName i).length + r.1, r.2))
def spanRGo : Nat → List UInt8 → Nat → Nat
  | 0, _, _ => 0
  | f + 1, l, first =>
    if runL digN l = 0 then 0 else match unitR (l.drop (runL digN l)) first with
      | none => 0
      | some i => runL digN l + (uName i).length + spanRGo f (l.drop (runL digN l + (uName i).length)) (i + 1)
def spanL (l : List UInt8) : Nat := (spanGo 8 l 0 0).1
theorem pre_one' (x : UInt8) (l : List UInt8) (hx : x.toNat ≠ 0) : [x].isPrefixOf l = decide (gB l 0 = x.toNat) := by
  cases l with
  | nil => simp [gB, List.isPrefixOf]; omega
  | cons y l =>
    simp only [List.isPrefixOf, Bool.and_true, gB, List.getD_cons_zero]
    rw [Bool.eq_iff_iff, beq_iff_eq, decide_eq_true_eq]
    exact ⟨fun h => by rw [h], fun h => (UInt8.toNat_inj.1 h).symm⟩
theorem pre_two' (x y : UInt8) (l : List UInt8) (hx : x.toNat ≠ 0) (hy : y.toNat ≠ 0) : [x, y].isPrefixOf l = (decide (gB l 0 = x.toNat) && decide (gB l 1 = y.toNat)) := by
  cases l with
  | nil => simp [gB, List.isPrefixOf]; omega
  | cons z l =>
    have h1 := pre_one' y l hy
    rw [List.isPrefixOf, h1, show gB (z :: l) 1 = gB l 0 from rfl]
    congr 1
    rw [Bool.eq_iff_iff, beq_iff_eq, decide_eq_true_eq]
    exact ⟨fun h => by rw [h]; rfl, fun h => (UInt8.toNat_inj.1 h).symm⟩
theorem run_one (x : UInt8) (l : List UInt8) (hx : lowN x.toNat = true) : (l.take (runL lowN l) == [x]) = (decide (gB l 0 = x.toNat) && !(lowN (gB l 1))) := by
  rw [Bool.eq_iff_iff, beq_iff_eq]
  cases l with
  | nil =>
    constructor
    · intro h; simp at h
    · intro h
      rw [Bool.and_eq_true] at h
      have h1 : (0 : Nat) = x.toNat := of_decide_eq_true h.1
      rw [← h1] at hx; exact absurd hx (by decide)
  | cons y l =>
    rw [runL_cons]
    by_cases hy : lowN y.toNat = true
    · rw [if_pos hy, List.take_succ_cons]
      have hg : gB (y :: l) 1 = gB l 0 := rfl
      have hg0 : gB (y :: l) 0 = y.toNat := rfl
      rw [hg, hg0]
      simp only [List.cons.injEq, Bool.and_eq_true, decide_eq_true_eq, Bool.not_eq_true']
      refine ⟨fun ⟨h1, h2⟩ => ⟨by rw [h1], ?_⟩, fun ⟨h1, h2⟩ => ⟨UInt8.toNat_inj.1 h1, ?_⟩⟩
      · rw [List.take_eq_nil_iff] at h2
        rcases h2 with h2 | h2
        · rcases Nat.lt_or_ge 0 l.length with h3 | h3
          · have := runL_end (p := lowN) (l := l) (by rw [h2]; exact h3); rwa [h2] at this
          · rw [gBn_out h3]; rfl
        · subst h2; rfl
      · cases l with
        | nil => rfl
        | cons z l => rw [runL_cons, if_neg (by rw [show z.toNat = gB (z :: l) 0 from rfl, h2]; simp)]; rfl
    · rw [if_neg hy]
      constructor
      · intro h; simp at h
      · intro h
        simp only [Bool.and_eq_true, decide_eq_true_eq] at h
        exact absurd (by rw [show y.toNat = gB (y :: l) 0 from rfl, h.1]; exact hx) hy
theorem run_two (x y : UInt8) (l : List UInt8) (hx : lowN x.toNat = true) (hy : lowN y.toNat = true) : (l.take (runL lowN l) == [x, y]) = (decide (gB l 0 = x.toNat) && (decide (gB l 1 = y.toNat) && !(lowN (gB l 2)))) := by
  cases l with
  | nil =>
    rw [Bool.eq_iff_iff]
    constructor
    · intro h; simp at h
    · intro h
      rw [Bool.and_eq_true] at h
      have h1 : (0 : Nat) = x.toNat := of_decide_eq_true h.1
      rw [← h1] at hx; exact absurd hx (by decide)
  | cons z l =>
    have h1 := run_one y l hy
    rw [show gB (z :: l) 1 = gB l 0 from rfl, show gB (z :: l) 2 = gB l 1 from rfl, ← h1, runL_cons]
    by_cases hz : lowN z.toNat = true
    · rw [if_pos hz, List.take_succ_cons]
      show (z == x && (l.take (runL lowN l) == [y])) = _
      congr 1
      rw [Bool.eq_iff_iff, beq_iff_eq, decide_eq_true_eq]
      exact ⟨fun h => by rw [h]; rfl, fun h => UInt8.toNat_inj.1 h⟩
    · rw [if_neg hz]
      have : decide (gB (z :: l) 0 = x.toNat) = false := decide_eq_false (fun h => hz (by rw [show z.toNat = gB (z :: l) 0 from rfl, h]; exact hx))
      rw [this]; rfl
theorem unitL_ex (l : List UInt8) (first : Nat) : unitL l first = [0, 1, 2, 3, 4, 5, 6].find? fun i => decide (first ≤ i) && (l.take (runL lowN l) == uName i) := rfl
theorem unitR_ex (l : List UInt8) (first : Nat) : unitR l first = [0, 1, 2, 3, 4, 5, 6].find? fun i => decide (first ≤ i) && ((uName i).isPrefixOf l && !(i == 4 && decide (gB l 1 = 115))) := rfl
set_option maxHeartbeats 1000000 in
theorem unit_rel (l : List UInt8) (first : Nat) : unitL l first = unitR l first ∨ (unitL l first = none ∧ ∃ i, unitR l first = some i ∧ lowN (gB l (uName i).length) = true) := by
  have a0 := run_one 121 l (by decide); have a1 := run_one 119 l (by decide); have a2 := run_one 100 l (by decide); have a3 := run_one 104 l (by decide)
  have a4 := run_one 109 l (by decide); have a5 := run_one 115 l (by decide); have a6 := run_two 109 115 l (by decide) (by decide)
  have b0 := pre_one' 121 l (by decide); have b1 := pre_one' 119 l (by decide); have b2 := pre_one' 100 l (by decide); have b3 := pre_one' 104 l (by decide)
  have b4 := pre_one' 109 l (by decide); have b5 := pre_one' 115 l (by decide); have b6 := pre_two' 109 115 l (by decide) (by decide)
  rw [unitL_ex, unitR_ex]
  simp only [List.find?, show uName 0 = [121] from rfl, show uName 1 = [119] from rfl, show uName 2 = [100] from rfl, show uName 3 = [104] from rfl, show uName 4 = [109] from rfl, show uName 5 = [115] from rfl, show uName 6 = [109, 115] from rfl,
    a0, a1, a2, a3, a4, a5, a6, b0, b1, b2, b3, b4, b5, b6]
  clear a0 a1 a2 a3 a4 a5 a6 b0 b1 b2 b3 b4 b5 b6
  generalize gB l 0 = c0
  have hs : lowN 115 = true := by decide
  by_cases k0 : c0 = 121
  · subst k0; by_cases hf : first ≤ 0 <;> by_cases hl : lowN (gB l 1) = true <;> simp [hf, hl, uName, unitsL]
  by_cases k1 : c0 = 119
  · subst k1; by_cases hf : first ≤ 1 <;> by_cases hl : lowN (gB l 1) = true <;> simp [hf, hl, uName, unitsL]
  by_cases k2 : c0 = 100
  · subst k2; by_cases hf : first ≤ 2 <;> by_cases hl : lowN (gB l 1) = true <;> simp [hf, hl, uName, unitsL]
  by_cases k3 : c0 = 104
  · subst k3; by_cases hf : first ≤ 3 <;> by_cases hl : lowN (gB l 1) = true <;> simp [hf, hl, uName, unitsL]
  by_cases k5 : c0 = 115
  · subst k5; by_cases hf : first ≤ 5 <;> by_cases hl : lowN (gB l 1) = true <;> simp [hf, hl, uName, unitsL]
  by_cases k4 : c0 = 109
  · subst k4
    by_cases h1 : gB l 1 = 115
    · by_cases hf : first ≤ 6 <;> by_cases hl : lowN (gB l 2) = true <;> simp [hf, hl, h1, hs, uName, unitsL]
    · by_cases hf : first ≤ 4 <;> by_cases hl : lowN (gB l 1) = true <;> simp [hf, hl, h1, uName, unitsL]
  · simp [k0, k1, k2, k3, k4, k5]

theorem uName_len {i : Nat} (h : i < 7) : 1 ≤ (uName i).length ∧ (uName i).length ≤ 2 := by
  have : ∀ j : Fin 7, 1 ≤ (uName j.val).length ∧ (uName j.val).length ≤ 2 := by decide
  exact this ⟨i, h⟩
theorem uName_low {i : Nat} (h : i < 7) {j : Nat} (hj : j < (uName i).length) : lowN (gB (uName i) j) = true := by
  have : ∀ (i : Fin 7) (j : Fin 2), j.val < (uName i.val).length → lowN (gB (uName i.val) j.val) = true := by decide
  have h2 := (uName_len h).2
  exact this ⟨i, h⟩ ⟨j, by omega⟩ hj
theorem unitR_some {l : List UInt8} {first i : Nat} (h : unitR l first = some i) : i < 7 ∧ first ≤ i ∧ (uName i) <+: l := by
  unfold unitR at h
  have h1 := List.mem_of_find?_eq_some h
  have h2 := List.find?_some h
  simp only [Bool.and_eq_true, decide_eq_true_eq] at h2
  exact ⟨List.mem_range.1 h1, h2.1, List.isPrefixOf_iff_prefix.1 h2.2.1⟩
theorem gB_prefix {p l : List UInt8} (h : p <+: l) {i : Nat} (hi : i < p.length) : gB l i = gB p i := by
  obtain ⟨t, rfl⟩ := h
  simp [gB, List.getD, List.getElem?_append_left hi]
def identN (c : Nat) : Bool := letN c || digN c || decide (c = 46)
theorem low_ident {c : Nat} (h : lowN c = true) : identN c = true := by unfold lowN at h; unfold identN letN; simp at h ⊢; omega
theorem low_dig {c : Nat} (h : lowN c = true) : ¬ digN c = true := by unfold lowN at h; unfold digN; simp at h ⊢; omega
theorem dig_ident {c : Nat} (h : digN c = true) : identN c = true := by unfold identN; simp [h]
theorem unit_within {l : List UInt8} {first i : Nat} (h : unitR l first = some i) {j : Nat} (hj : j < (uName i).length) : identN (gB l j) = true := by
  obtain ⟨h1, _, h3⟩ := unitR_some h
  rw [gB_prefix h3 hj]; exact low_ident (uName_low h1 hj)
theorem span_rel : ∀ (f : Nat) (l : List UInt8) (first sum : Nat), (spanGo f l first sum).1 = spanRGo f l first ∨ ((spanGo f l first sum).1 < spanRGo f l first ∧ ∀ i, i ≤ spanRGo f l first → identN (gB l i) = true)
  | 0, l, first, sum => .inl rfl
  | f + 1, l, first, sum => by
    unfold spanGo spanRGo
    by_cases hd : runL digN l = 0
    · rw [if_pos hd, if_pos hd]; exact .inl rfl
    rw [if_neg hd, if_neg hd]
    have hdi : ∀ i, i < runL digN l → identN (gB l i) = true := fun i hi => dig_ident (runL_in hi).2
    rcases unit_rel (l.drop (runL digN l)) first with h | ⟨h, i, hR, hlow⟩
    · rw [h]
      cases hR : unitR (l.drop (runL digN l)) first with
      | none => exact .inl rfl
      | some i =>
        simp only
        have hu : ∀ j, j < (uName i).length → identN (gB l (runL digN l + j)) = true := fun j hj => by rw [← gB_drop]; exact unit_within hR hj
        rcases span_rel f (l.drop (runL digN l + (uName i).length)) (i + 1) (min (sum + timesL (l.take (runL digN l)) (uMs i)) (maxS + 1)) with e | ⟨e1, e2⟩
        · exact .inl (by rw [e])
        · refine .inr ⟨by omega, fun j hj => ?_⟩
          rcases Nat.lt_or_ge j (runL digN l) with h1 | h1
          · exact hdi j h1
          rcases Nat.lt_or_ge j (runL digN l + (uName i).length) with h2 | h2
          · have := hu (j - runL digN l) (by omega); rwa [show runL digN l + (j - runL digN l) = j from by omega] at this
          · have := e2 (j - (runL digN l + (uName i).length)) (by omega)
            rw [gB_drop] at this; rwa [show runL digN l + (uName i).length + (j - (runL digN l + (uName i).length)) = j from by omega] at this
    · rw [h, hR]
      simp only
      have hlow' : lowN (gB l (runL digN l + (uName i).length)) = true := by rw [← gB_drop]; exact hlow
      have h0 : spanRGo f (l.drop (runL digN l + (uName i).length)) (i + 1) = 0 := by
        cases f with
        | zero => rfl
        | succ f =>
          unfold spanRGo
          have : runL digN (l.drop (runL digN l + (uName i).length)) = 0 := by
            rcases Nat.lt_or_ge (runL digN l + (uName i).length) l.length with hl | hl
            · rw [runL_step hl, if_neg (low_dig hlow')]
            · exact runL_out hl
          rw [if_pos this]
      rw [h0]
      refine .inr ⟨by omega, fun j hj => ?_⟩
      rcases Nat.lt_or_ge j (runL digN l) with h1 | h1
      · exact hdi j h1
      rcases Nat.lt_or_ge j (runL digN l + (uName i).length) with h2 | h2
      · have := unit_within hR (j := j - runL digN l) (by omega)
        rw [gB_drop] at this; rwa [show runL digN l + (j - runL digN l) = j from by omega] at this
      · rw [show j = runL digN l + (uName i).length from by omega]; exact low_ident hlow'
theorem unitL_some {l : List UInt8} {first i : Nat} (h : unitL l first = some i) : i < 7 ∧ first ≤ i ∧ l.take (runL lowN l) = uName i := by
  unfold unitL at h
  have h1 := List.mem_of_find?_eq_some h
  have h2 := List.find?_some h
  simp only [Bool.and_eq_true, decide_eq_true_eq, beq_iff_eq] at h2
  exact ⟨List.mem_range.1 h1, h2.1, h2.2⟩
theorem unitL_run {l : List UInt8} {first i : Nat} (h : unitL l first = some i) : runL lowN l = (uName i).length := by
  have := congrArg List.length (unitL_some h).2.2
  rw [List.length_take, Nat.min_eq_left (runL_le _ _)] at this
  exact this
theorem spanRGo_le : ∀ (f : Nat) (l : List UInt8) (first : Nat), spanRGo f l first ≤ l.length
  | 0, l, first => Nat.zero_le _
  | f + 1, l, first => by
    unfold spanRGo
    split
    · omega
    · rename_i hd
      cases hR : unitR (l.drop (runL digN l)) first with
      | none => exact Nat.zero_le _
      | some i =>
        simp only
        have h1 := (unitR_some hR).2.2.length_le
        have h2 := spanRGo_le f (l.drop (runL digN l + (uName i).length)) (i + 1)
        have h3 := runL_le digN l
        rw [List.length_drop] at h1 h2
        omega
theorem spanL_le (l : List UInt8) : spanL l ≤ l.length := by
  have h1 := spanRGo_le 8 l 0
  rcases span_rel 8 l 0 0 with h | ⟨h, _⟩
  · unfold spanL; omega
  · unfold spanL; omega
theorem expK_le {l : List UInt8} {n : Nat} (h : n < l.length) : n + 1 ≤ expK l n ∧ expK l n ≤ l.length := by
  unfold expK
  split
  · have := gBn_in (l := l) (i := n + 1) (by omega); omega
  · omega
theorem expL_le {l : List UInt8} {n : Nat} (hn : n ≤ l.length) : n ≤ expL l n ∧ expL l n ≤ l.length := by
  unfold expL
  split
  · rename_i he
    have hi := gBn_in (l := l) (i := n) (by omega)
    have hk := expK_le hi
    have := runL_le digN (l.drop (expK l n)); rw [List.length_drop] at this
    split <;> omega
  · omega
theorem numA_le {l : List UInt8} {a : Nat} (ha : a ≤ l.length) : numA l a ≤ l.length := by
  unfold numA
  split
  · have hi := gBn_in (l := l) (i := a) (by omega)
    have hB := runL_le digN (l.drop (a + 1)); rw [List.length_drop] at hB
    split <;> omega
  · omega
theorem numL_le (l : List UInt8) : numL l ≤ l.length := by
  unfold numL
  split
  · rename_i h
    have hi := gBn_in (l := l) (i := 1) (by omega)
    have := runL_le hexN (l.drop 2); rw [List.length_drop] at this
    omega
  · split
    · omega
    · exact (expL_le (numA_le (runL_le _ _))).2
/-! ### one token -/
def signsL : List (List UInt8) := [[33, 61], [61, 126], [33, 126], [61, 61], [62, 61], [60, 61], [40], [41], [123], [125], [91], [93], [44], [61], [43], [45], [42], [47], [37], [94], [62], [60]]
def signL (l : List UInt8) : Option (List UInt8) := signsL.find? fun x => x.isPrefixOf l
def numTok (l : List UInt8) (m : Nat) : Option (Nat × List UInt8 × Nat) :=
  (let e := if m > numL l then m else numL l
   if e = 0 ∨ identN (gB l e) = true then none else some (if m > numL l then 3 else 2, l.take e, e))
theorem numTok_some {l : List UInt8} {m k n : Nat} {t : List UInt8} (hm : m ≤ l.length) (h : numTok l m = some (k, t, n)) : 1 ≤ n ∧ n ≤ l.length ∧ t = l.take n ∧ identN (gB l n) = false ∧ n = (if m > numL l then m else numL l) ∧ k = (if m > numL l then 3 else 2) := by
  unfold numTok at h
  simp only at h
  have h1 := numL_le l
  generalize he : (if m > numL l then m else numL l) = e at h
  have hel : e ≤ l.length := by rw [← he]; split <;> omega
  by_cases hc : e = 0 ∨ identN (gB l e) = true
  · rw [if_pos hc] at h; cases h
  · rw [if_neg hc] at h
    simp only [Option.some.injEq, Prod.mk.injEq] at h
    obtain ⟨h2, h3, h4⟩ := h
    rw [not_or, Bool.not_eq_true] at hc
    subst h4
    exact ⟨by omega, hel, h3.symm, hc.2, rfl, h2.symm⟩
/-- the token that stands ahead: its kind, its text, how many bytes; none: there is none -/
def oneL (l : List UInt8) : Option (Nat × List UInt8 × Nat) :=
  if letN (gB l 0) = true then some (1, l.take (runL (fun c => letN c || digN c) l), runL (fun c => letN c || digN c) l)
  else if digN (gB l 0) = true ∨ gB l 0 = 46 then numTok l (spanL l)
  else if gB l 0 = 34 ∨ gB l 0 = 39 then (textP (gB l 0) (l.drop 1)).map fun o => (4, o.1, o.2 + 1)
  else (signL l).map fun x => (5, x, x.length)
def blankN (c : Nat) : Bool := decide (c = 32) || decide (c = 9) || decide (c = 10) || decide (c = 13)
def lineN (c : Nat) : Bool := decide (c ≠ 10)
/-- blanks and remarks that stand ahead -/
def skipL (l : List UInt8) : Nat :=
  if hl : l = [] then 0
  else if blankN (gB l 0) = true then 1 + skipL (l.drop 1)
  else if gB l 0 = 35 then (1 + runL lineN (l.drop 1)) + skipL (l.drop (1 + runL lineN (l.drop 1)))
  else 0
termination_by l.length
decreasing_by all_goals (have := List.length_pos_iff.2 hl; rw [List.length_drop]; omega)
theorem skipL_le (l : List UInt8) : skipL l ≤ l.length := by
  induction hm : l.length using Nat.strongRecOn generalizing l with
  | _ m ih =>
    rw [skipL]
    split
    · omega
    rename_i hl
    have hp := List.length_pos_iff.2 hl
    split
    · have := ih _ (by rw [List.length_drop]; omega) (l.drop 1) rfl; rw [List.length_drop] at this; omega
    split
    · have h1 := runL_le lineN (l.drop 1)
      have := ih _ (by rw [List.length_drop]; omega) (l.drop (1 + runL lineN (l.drop 1))) rfl
      rw [List.length_drop] at this h1; omega
    · omega
structure Tk3 where
  kind : Nat
  text : List UInt8
  at_ : Nat
theorem textP_pos {q : Nat} (hq : q < 128) {l : List UInt8} {o : List UInt8} {n : Nat} (h : textP q l = some (o, n)) : 1 ≤ n ∧ n ≤ l.length := by
  rw [textP_eq hq] at h
  cases hr : textR q l with
  | none => rw [hr] at h; cases h
  | some on =>
    obtain ⟨o', n'⟩ := on
    rw [hr] at h
    simp only at h
    split at h
    · cases h; exact textR_pos hr
    · cases h
theorem oneL_pos {l : List UInt8} {k : Nat} {t : List UInt8} {n : Nat} (h : oneL l = some (k, t, n)) : 1 ≤ n ∧ n ≤ l.length := by
  unfold oneL at h
  split at h
  · rename_i hc
    cases h
    refine ⟨?_, runL_le _ _⟩
    have hi := gBn_in (l := l) (i := 0) (by unfold letN at hc; simp at hc; omega)
    rw [show l = l.drop 0 from rfl, runL_step hi, if_pos (by rw [hc]; rfl)]; omega
  split at h
  · exact ⟨(numTok_some (spanL_le l) h).1, (numTok_some (spanL_le l) h).2.1⟩
  split at h
  · rename_i hq
    obtain ⟨⟨o, n'⟩, h1, h2⟩ := Option.map_eq_some_iff.1 h
    cases h2
    have := textP_pos (by omega) h1
    rw [List.length_drop] at this
    omega
  · obtain ⟨x, h1, h2⟩ := Option.map_eq_some_iff.1 h
    cases h2
    have h3 := List.mem_of_find?_eq_some h1
    have h4 := List.find?_some h1
    have h5 := (List.isPrefixOf_iff_prefix.1 h4).length_le
    have : ∀ x ∈ signsL, 1 ≤ x.length := by decide
    exact ⟨this _ h3, h5⟩
/-- the tokens of what is left, from a place on; inr: the place at fault -/
def toksL (l : List UInt8) (a : Nat) : List Tk3 ⊕ Nat :=
  if l.drop (skipL l) = [] then .inl []
  else match ho : oneL (l.drop (skipL l)) with
    | none => .inr (a + skipL l)
    | some (k, t, n) => match toksL (l.drop (skipL l + n)) (a + skipL l + n) with
      | .inl r => .inl (⟨k, t, a + skipL l⟩ :: r)
      | .inr p => .inr p
termination_by l.length
decreasing_by (have := oneL_pos ho; rw [List.length_drop] at this ⊢; omega)
theorem toksL_end {l : List UInt8} {a : Nat} (h : l.drop (skipL l) = []) : toksL l a = .inl [] := by rw [toksL, if_pos h]
theorem toksL_bad {l : List UInt8} {a : Nat} (h : l.drop (skipL l) ≠ []) (ho : oneL (l.drop (skipL l)) = none) : toksL l a = .inr (a + skipL l) := by
  rw [toksL, if_neg h]
  split
  · rfl
  · rename_i h1; rw [ho] at h1; cases h1
theorem toksL_cons {l : List UInt8} {a k n : Nat} {t : List UInt8} (h : l.drop (skipL l) ≠ []) (ho : oneL (l.drop (skipL l)) = some (k, t, n)) :
    toksL l a = match toksL (l.drop (skipL l + n)) (a + skipL l + n) with
      | .inl r => .inl (⟨k, t, a + skipL l⟩ :: r)
      | .inr p => .inr p := by
  rw [toksL, if_neg h]
  split
  · rename_i h1; rw [ho] at h1; cases h1
  · rename_i h1; rw [ho] at h1; cases h1; rfl
theorem toksL_len : ∀ (l : List UInt8) (a : Nat) (r : List Tk3), toksL l a = .inl r → r.length ≤ l.length := by
  intro l
  induction hm : l.length using Nat.strongRecOn generalizing l with
  | _ m ih =>
    intro a r h
    rw [toksL] at h
    split at h
    · cases h; simp
    split at h
    · cases h
    · rename_i k t n ho
      have hp := oneL_pos ho
      rw [List.length_drop] at hp
      split at h
      · rename_i r' hr
        cases h
        have := ih _ (by rw [List.length_drop]; omega) (l.drop (skipL l + n)) rfl _ _ hr
        rw [List.length_drop] at this
        simp only [List.length_cons]; omega
      · cases h
end Go.GB

/- Plain laws, base: the order of texts. -/
set_option linter.unusedVariables false
namespace Go.GB
open Go.Lib
theorem ba_eq {a b : ByteArray} (h : a.data.toList = b.data.toList) : a = b := by
  obtain ⟨⟨x⟩⟩ := a
  obtain ⟨⟨y⟩⟩ := b
  simpa using h
theorem toList_eq (a : ByteArray) : a.toList = a.data.toList := ByteArray.toList_eq a
end Go.GB

/- Plain laws: the program's scans are the lists' (numbers, durations, signs). -/
set_option linter.unusedVariables false
set_option maxRecDepth 100000
namespace Go.GB
open Go.Lib
theorem bind_of {α β : Type} {x : Option α} {a : α} {f : α → Option β} {r : Option β} (h : x = some a) (k : f a = r) : Option.bind x f = r := by rw [h]; exact k
theorem fin_all {P : Nat → Prop} (h : ∀ c : Fin 256, P c.val) {n : Nat} (hn : n < 256) : P n := h ⟨n, hn⟩
theorem wrapN {n : Nat} {z : Int} (h : z = (n : Int)) (hn : n < 9223372036854775808) : IntKind.wrap .i64 z = (n : Int) := by rw [wrap64 (by omega) (by omega), h]
abbrev tl (s : ByteArray) : List UInt8 := s.data.toList
theorem tl_len (s : ByteArray) : (tl s).length = s.size := size_list s
theorem gB_lt (l : List UInt8) (i : Nat) : gB l i < 256 := UInt8.toNat_lt _
theorem gB_out {l : List UInt8} {i : Nat} (h : l.length ≤ i) : gB l i = 0 := by unfold gB; rw [List.getD_eq_getElem?_getD, List.getElem?_eq_none h]; rfl
theorem gB_in {l : List UInt8} {i : Nat} (h : 0 < gB l i) : i < l.length := by
  rcases Nat.lt_or_ge i l.length with h1 | h1
  · exact h1
  · rw [gB_out h1] at h; omega
theorem bx_tl {s : ByteArray} {i : Nat} (h : i < s.size) : bx s (i : Int) = some ((gB (tl s) i : Nat) : Int) := bx_at h
theorem tl_extract (s : ByteArray) (a b : Nat) : tl (s.extract a b) = ((tl s).drop a).take (b - a) := by
  show (s.extract a b).data.toList = _
  rw [ByteArray.data_extract, Array.toList_extract, List.extract_eq_take_drop]
theorem sx_tl {s : ByteArray} {a b : Nat} (h : a ≤ b) (hb : b ≤ s.size) : sx s (a : Int) (b : Int) = some (s.extract a b) := by
  unfold sx
  rw [if_pos ⟨by omega, by omega, by omega⟩]; rfl
theorem tl_inj {a b : ByteArray} : (a.toList == b.toList) = (tl a == tl b) := by rw [ByteArray.toList_eq, ByteArray.toList_eq]
theorem at_if {s : ByteArray} {i : Nat} {f : Int → Option Bool} (q : Nat → Bool) (h0 : q 0 = false) (hf : i < s.size → f ((gB (tl s) i : Nat) : Int) = some (q (gB (tl s) i))) :
    (bif decide ((i : Int) < (s.size : Int)) then Option.bind (bx s (i : Int)) f else some false) = some (q (gB (tl s) i)) := by
  by_cases h : i < s.size
  · rw [decide_eq_true (by omega), cond_true, bx_tl h, Option.bind_some, hf h]
  · rw [decide_eq_false (by omega), cond_false, gB_out (by rw [tl_len]; omega), h0]
/-- a loop that counts a run -/
theorem loop_runL {body : Int → Option (Int ⊕ Int)} {l : List UInt8} {p : Nat → Bool} (off : Nat)
    (h : ∀ k : Nat, off + k ≤ l.length → body (k : Int) = some (if off + k < l.length ∧ p (gB l (off + k)) = true then .inl ((k + 1 : Nat) : Int) else .inr (k : Int))) :
    ∀ d k : Nat, off + k + d = l.length → loopO body (k : Int) = some ((k + runL p (l.drop (off + k)) : Nat) : Int)
  | 0, k, hd => by
    have := h k (by omega)
    rw [if_neg (by omega)] at this
    rw [loopO_done this, runL_out (by omega), Nat.add_zero]
  | d + 1, k, hd => by
    have h1 := h k (by omega)
    rw [runL_step (by omega)]
    by_cases hp : p (gB l (off + k)) = true
    · rw [if_pos ⟨by omega, hp⟩] at h1
      rw [if_pos hp, loopO_step h1, loop_runL off h d (k + 1) (by omega)]
      congr 2
      rw [show off + (k + 1) = off + k + 1 from by omega]; omega
    · rw [if_neg (fun h => hp h.2)] at h1
      rw [if_neg hp, loopO_done h1, Nat.add_zero]
end Go.GB
namespace Go.Proofs.YtlhpclfkoblnkaaDoor
open Go.GB Go.Lib
theorem let_eq {c : Nat} (h : c < 256) : lex_letter (c : Int) = letN c := fin_all (P := fun n => lex_letter (n : Int) = letN n) (by unfold lex_letter; decide +kernel) h
theorem dig_eq {c : Nat} (h : c < 256) : lex_digit (c : Int) = digN c := fin_all (P := fun n => lex_digit (n : Int) = digN n) (by unfold lex_digit; decide +kernel) h
theorem hex_eq {c : Nat} (h : c < 256) : lex_hex (c : Int) = hexN c := fin_all (P := fun n => lex_hex (n : Int) = hexN n) (by unfold lex_hex lex_digit; decide +kernel) h
theorem low_eq {c : Nat} (h : c < 256) : lex_span_1 (c : Int) = lowN c := fin_all (P := fun n => lex_span_1 (n : Int) = lowN n) (by unfold lex_span_1; decide +kernel) h
theorem ident_eq {c : Nat} (h : c < 256) : lex_one_1 (c : Int) = (letN c || digN c) := by unfold lex_one_1; rw [let_eq h, dig_eq h]
theorem lex_run_eq {s : ByteArray} {a : Nat} {f : Int → Option Bool} (p : Nat → Bool) (hs : s.size < 4294967296) (ha : a ≤ s.size) (hp : ∀ c : Nat, c < 256 → f (c : Int) = some (p c)) (h0 : p 0 = false) :
    lex_run s (a : Int) f = some ((runL p ((tl s).drop a) : Nat) : Int) := by
  unfold lex_run
  have hl := tl_len s
  have := loop_runL (body := lex_run_l16 s (a : Int) f) (l := tl s) (p := p) a (fun k hk => by
    unfold lex_run_l16
    rw [wrapN (n := a + k) (by omega) (by omega)]
    refine bind_of (a := p (gB (tl s) (a + k))) ?_ ?_
    · exact at_if p h0 (fun hi => by rw [hp _ (gB_lt _ _)]; rfl)
    · by_cases hc : p (gB (tl s) (a + k)) = true
      · have hi : a + k < (tl s).length := by
          rcases Nat.lt_or_ge (a + k) (tl s).length with h | h
          · exact h
          · rw [gB_out h, h0] at hc; cases hc
        rw [hc, cond_true, if_pos ⟨hi, rfl⟩, wrapN (n := k + 1) (by omega) (by omega)]
      · rw [Bool.not_eq_true] at hc
        rw [hc, cond_false, if_neg (by simp)]) (s.size - a) 0 (by omega)
  rw [show ((0 : Nat) : Int) = 0 from rfl] at this
  rw [this]
  simp
theorem pref_eq {s p : ByteArray} : strings_HasPrefix s p = some ((tl p).isPrefixOf (tl s)) := by
  unfold strings_HasPrefix stringslite_HasPrefix
  refine bind_of (a := (tl p).isPrefixOf (tl s)) ?_ rfl
  refine bind_of (a := (tl p).isPrefixOf (tl s)) ?_ rfl
  by_cases h : p.size ≤ s.size
  · rw [decide_eq_true (by omega), cond_true, show (0 : Int) = ((0 : Nat) : Int) from rfl, sx_tl (Nat.zero_le _) h, Option.bind_some, tl_inj, tl_extract, List.drop_zero, Nat.sub_zero]
    congr 1
    rw [Bool.eq_iff_iff, List.isPrefixOf_iff_prefix, beq_iff_eq, List.prefix_iff_eq_take, tl_len]
    exact ⟨fun h => h.symm, fun h => h.symm⟩
  · rw [decide_eq_false (by omega), cond_false]
    congr 1
    symm
    rw [Bool.eq_false_iff]
    intro hp
    have := (List.isPrefixOf_iff_prefix.1 hp).length_le
    rw [tl_len, tl_len] at this; omega
theorem num_dig {s : ByteArray} {a : Nat} (hs : s.size < 4294967296) (ha : a ≤ s.size) : lex_run s (a : Int) (fun x0 => some (lex_digit x0)) = some ((runL digN ((tl s).drop a) : Nat) : Int) :=
  lex_run_eq digN hs ha (fun c hc => by rw [dig_eq hc]) rfl
theorem lex_number_eq {s : ByteArray} (hs : s.size < 4294967296) : lex_number s = some ((numL (tl s) : Nat) : Int) := by
  have hl := tl_len s
  have q1 : lex_run s 2 (fun x0 => some (lex_hex x0)) = lex_run s ((2 : Nat) : Int) (fun x0 => some (lex_hex x0)) := rfl
  have hp1 := pre_two' 48 120 (tl s) (by decide) (by decide)
  have hp2 := pre_two' 48 88 (tl s) (by decide) (by decide)
  unfold lex_number
  refine bind_of (a := decide (gB (tl s) 0 = 48 ∧ (gB (tl s) 1 = 120 ∨ gB (tl s) 1 = 88))) ?_ ?_
  · rw [pref_eq, pref_eq, show tl (⟨#[48, 120]⟩ : ByteArray) = [48, 120] from rfl, show tl (⟨#[48, 88]⟩ : ByteArray) = [48, 88] from rfl, hp1, hp2]
    show Option.bind (some (decide (gB (tl s) 0 = 48) && decide (gB (tl s) 1 = 120))) _ = _
    rw [Option.bind_some]
    by_cases h0 : gB (tl s) 0 = 48 <;> by_cases h1 : gB (tl s) 1 = 120 <;> by_cases h2 : gB (tl s) 1 = 88 <;> simp [h0, h1, h2]
  refine bind_of (a := if gB (tl s) 0 = 48 ∧ (gB (tl s) 1 = 120 ∨ gB (tl s) 1 = 88) ∧ 0 < runL hexN ((tl s).drop 2) then Sum.inr ((2 + runL hexN ((tl s).drop 2) : Nat) : Int) else Sum.inl ()) ?_ ?_
  · by_cases hc : gB (tl s) 0 = 48 ∧ (gB (tl s) 1 = 120 ∨ gB (tl s) 1 = 88)
    · have h2 : 2 ≤ s.size := by have := gB_in (l := tl s) (i := 1) (by omega); omega
      rw [decide_eq_true hc, cond_true, q1, lex_run_eq hexN hs h2 (fun c hc => by rw [hex_eq hc]) rfl, Option.bind_some]
      by_cases hr : 0 < runL hexN ((tl s).drop 2)
      · rw [decide_eq_true (by omega), cond_true, if_pos ⟨hc.1, hc.2, hr⟩, wrapN (n := 2 + runL hexN ((tl s).drop 2)) (by omega) (by have := runL_le hexN ((tl s).drop 2); rw [List.length_drop] at this; omega)]
      · rw [decide_eq_false (by omega), cond_false, if_neg (fun h => hr h.2.2)]
    · rw [decide_eq_false hc, cond_false, if_neg (fun h => hc ⟨h.1, h.2.1⟩)]
  unfold numL
  by_cases hH : gB (tl s) 0 = 48 ∧ (gB (tl s) 1 = 120 ∨ gB (tl s) 1 = 88) ∧ 0 < runL hexN ((tl s).drop 2)
  · rw [if_pos hH, if_pos hH]
  rw [if_neg hH, if_neg hH]
  show Option.bind _ _ = _
  have hA := runL_le digN (tl s)
  refine bind_of (a := ((runL digN (tl s) : Nat) : Int)) (by have := num_dig (a := 0) hs (by omega); rw [List.drop_zero] at this; exact this) ?_
  generalize hAe : runL digN (tl s) = A at *
  refine bind_of (a := decide (gB (tl s) A = 46)) ?_ ?_
  · exact at_if (fun c => decide (c = 46)) rfl (fun hi => by show some (((gB (tl s) A : Nat) : Int) == 46) = some (decide (gB (tl s) A = 46)); congr 1; rw [Bool.eq_iff_iff, beq_iff_eq, decide_eq_true_eq]; omega)
  have hNA := numA_le (l := tl s) (a := A) (by omega)
  refine bind_of (a := if gB (tl s) A = 46 ∧ numA (tl s) A = 0 then Sum.inr (0 : Int) else Sum.inl ((numA (tl s) A : Nat) : Int)) ?_ ?_
  · by_cases hd : gB (tl s) A = 46
    · have hi := gB_in (l := tl s) (i := A) (by omega)
      have hB := runL_le digN ((tl s).drop (A + 1))
      rw [List.length_drop] at hB
      unfold numA
      rw [decide_eq_true hd, cond_true, if_pos hd, wrapN (n := A + 1) (by omega) (by omega), num_dig hs (by omega), Option.bind_some, wrapN (n := A + runL digN ((tl s).drop (A + 1))) (by omega) (by omega)]
      by_cases hz : A + runL digN ((tl s).drop (A + 1)) = 0
      · rw [if_pos hz, if_pos ⟨hd, rfl⟩, hz]; rfl
      · rw [if_neg hz, if_neg (fun h => by have := h.2; omega), show (((A + runL digN ((tl s).drop (A + 1)) : Nat) : Int) == 0) = false from by rw [beq_eq_false_iff_ne]; omega, cond_false,
          wrapN (z := 1 + ((runL digN ((tl s).drop (A + 1)) : Nat) : Int)) (n := 1 + runL digN ((tl s).drop (A + 1))) (by omega) (by omega), wrapN (n := A + 1 + runL digN ((tl s).drop (A + 1))) (by omega) (by omega)]
    · rw [decide_eq_false hd, cond_false, if_neg (fun h => hd h.1)]
      unfold numA; rw [if_neg hd]
  by_cases hz : gB (tl s) A = 46 ∧ numA (tl s) A = 0
  · rw [if_pos hz]
    show some (0 : Int) = _
    rw [if_pos hz.2]; rfl
  rw [if_neg hz]
  have hnl : numA (tl s) A ≤ s.size := by omega
  generalize numA (tl s) A = M at *
  show (bif ((M : Int) == 0) then _ else _) = _
  by_cases hM : M = 0
  · subst hM; rfl
  rw [show ((M : Int) == 0) = false from by rw [beq_eq_false_iff_ne]; omega, cond_false, if_neg hM]
  unfold expL
  refine bind_of (a := decide (gB (tl s) M = 101 ∨ gB (tl s) M = 69)) ?_ ?_
  · exact at_if (fun c => decide (c = 101 ∨ c = 69)) rfl (fun hi => by
      rw [bx_tl hi]
      by_cases h1 : gB (tl s) M = 101
      · rw [h1]; rfl
      · rw [show (((gB (tl s) M : Nat) : Int) == 101) = false from by rw [beq_eq_false_iff_ne]; omega]
        simp only [cond_false, Option.bind_some, h1, false_or]
        congr 1; rw [Bool.eq_iff_iff, beq_iff_eq, decide_eq_true_eq]; omega)
  by_cases hE : gB (tl s) M = 101 ∨ gB (tl s) M = 69
  · rw [decide_eq_true hE, cond_true, if_pos hE]
    have hi := gB_in (l := tl s) (i := M) (by omega)
    refine bind_of (a := (((if 0 < runL digN ((tl s).drop (expK (tl s) M)) then expK (tl s) M + runL digN ((tl s).drop (expK (tl s) M)) else M) : Nat) : Int)) ?_ rfl
    rw [wrapN (n := M + 1) (by omega) (by omega)]
    refine bind_of (a := decide (gB (tl s) (M + 1) = 43 ∨ gB (tl s) (M + 1) = 45)) ?_ ?_
    · exact at_if (fun c => decide (c = 43 ∨ c = 45)) rfl (fun hi => by
        rw [bx_tl hi]
        by_cases h1 : gB (tl s) (M + 1) = 43
        · rw [h1]; rfl
        · rw [show (((gB (tl s) (M + 1) : Nat) : Int) == 43) = false from by rw [beq_eq_false_iff_ne]; omega]
          simp only [cond_false, Option.bind_some, h1, false_or]
          congr 1; rw [Bool.eq_iff_iff, beq_iff_eq, decide_eq_true_eq]; omega)
    refine bind_of (a := ((expK (tl s) M : Nat) : Int)) ?_ ?_
    · unfold expK
      by_cases hS : gB (tl s) (M + 1) = 43 ∨ gB (tl s) (M + 1) = 45
      · rw [decide_eq_true hS, cond_true, if_pos hS, wrapN (n := M + 2) (by omega) (by omega)]
      · rw [decide_eq_false hS, cond_false, if_neg hS]
    have hk := (expK_le (l := tl s) (n := M) hi).2
    rw [hl] at hk
    generalize expK (tl s) M = Kk at *
    have hD := runL_le digN ((tl s).drop Kk)
    rw [List.length_drop] at hD
    refine bind_of (num_dig hs hk) ?_
    refine bind_of (a := (((if 0 < runL digN ((tl s).drop Kk) then Kk + runL digN ((tl s).drop Kk) else M) : Nat) : Int)) ?_ rfl
    by_cases hr : 0 < runL digN ((tl s).drop Kk)
    · rw [decide_eq_true (by omega), cond_true, if_pos hr, wrapN (n := Kk + runL digN ((tl s).drop Kk)) (by omega) (by omega)]
    · rw [decide_eq_false (by omega), cond_false, if_neg hr]
  · rw [decide_eq_false hE, cond_false, if_neg hE]; rfl
end Go.Proofs.YtlhpclfkoblnkaaDoor

set_option linter.unusedVariables false
set_option linter.unusedSimpArgs false
set_option maxRecDepth 100000
namespace Go.Proofs.YtlhpclfkoblnkaaDoor
open Go.GB
noncomputable def lex_run_l16_c (a0 : ByteArray) (a1 : Int) (a2 : Int → Option Bool) : Int → Option ((Int) ⊕ (Int)) := fun s7 =>
  Option.bind (bif (decide ((IntKind.wrap .i64 (a1 + s7)) < (a0.size : Int))) then
    (Option.bind (bx a0 (IntKind.wrap .i64 (a1 + s7))) fun (c24 : Int) =>
      Option.bind (a2 c24) fun (y27 : Bool) =>
      some y27)
    else
    (some false)) fun (j18 : Bool) =>
  bif j18 then
  (some (Sum.inl (IntKind.wrap .i64 (s7 + 1))))
  else
  (some (Sum.inr s7))
theorem lex_run_l16_ev (a0 : ByteArray) (a1 : Int) {a2 a2' : Int → Option Bool} (ha2 : ∀ x0, OLe (a2 x0) (a2' x0)) (s7 : Int) : OLe (lex_run_l16_c a0 a1 a2 s7) (lex_run_l16 a0 a1 a2' s7) := by
  unfold lex_run_l16_c lex_run_l16
  exact (OLe.bind (OLe.cond (OLe.bind (OLe.refl _) (fun _ => (OLe.bind (ha2 _) (fun _ => (OLe.refl _))))) (OLe.refl _)) (fun _ => (OLe.cond (OLe.refl _) (OLe.refl _))))
noncomputable def lex_run_c (a0 : ByteArray) (a1 : Int) (a2 : Int → Option Bool) : Option Int :=
  Option.bind (loopF 1000000 (lex_run_l16_c a0 a1 a2) 0) fun (r5 : Int) =>
  some r5
theorem lex_run_ev (a0 : ByteArray) (a1 : Int) {a2 a2' : Int → Option Bool} (ha2 : ∀ x0, OLe (a2 x0) (a2' x0)) : OLe (lex_run_c a0 a1 a2) (lex_run a0 a1 a2') := by
  unfold lex_run_c lex_run
  exact (OLe.bind (OLe.loop (fun _ => lex_run_l16_ev _ _ ha2 _)) (fun _ => (OLe.refl _)))
noncomputable def stringslite_HasPrefix_c (a0 : ByteArray) (a1 : ByteArray) : Option Bool :=
  Option.bind (bif (decide ((a0.size : Int) ≥ (a1.size : Int))) then
    (Option.bind (sx a0 0 (a1.size : Int)) fun (s8 : ByteArray) =>
      some (s8.toList == a1.toList))
    else
    (some false)) fun (j1 : Bool) =>
  some j1
theorem stringslite_HasPrefix_ev (a0 : ByteArray) (a1 : ByteArray) : OLe (stringslite_HasPrefix_c a0 a1) (stringslite_HasPrefix a0 a1) := by
  unfold stringslite_HasPrefix_c stringslite_HasPrefix
  exact (OLe.bind (OLe.cond (OLe.bind (OLe.refl _) (fun _ => (OLe.refl _))) (OLe.refl _)) (fun _ => (OLe.refl _)))
noncomputable def strings_HasPrefix_c (a0 : ByteArray) (a1 : ByteArray) : Option Bool :=
  Option.bind (stringslite_HasPrefix_c a0 a1) fun (y1 : Bool) =>
  some y1
theorem strings_HasPrefix_ev (a0 : ByteArray) (a1 : ByteArray) : OLe (strings_HasPrefix_c a0 a1) (strings_HasPrefix a0 a1) := by
  unfold strings_HasPrefix_c strings_HasPrefix
  exact (OLe.bind (stringslite_HasPrefix_ev _ _) (fun _ => (OLe.refl _)))
noncomputable def lex_number_c (a0 : ByteArray) : Option Int :=
  Option.bind (Option.bind (strings_HasPrefix_c a0 (⟨#[48, 120]⟩ : ByteArray)) fun (y6 : Bool) =>
    bif y6 then
    (some true)
    else
    (Option.bind (strings_HasPrefix_c a0 (⟨#[48, 88]⟩ : ByteArray)) fun (y9 : Bool) =>
      some y9)) fun (j1 : Bool) =>
  Option.bind ((bif j1 then
    (Option.bind (lex_run_c a0 2 (fun x0 => some (lex_hex x0))) fun (y18 : Int) =>
      bif (decide (y18 > 0)) then
      (some (Sum.inr (IntKind.wrap .i64 (2 + y18))))
      else
      (some (Sum.inl ())))
    else
    (some (Sum.inl ())) : Option ((Unit) ⊕ (Int)))) fun (j11 : (Unit) ⊕ (Int)) =>
  match j11 with
  | Sum.inl j13 => Option.bind (lex_run_c a0 0 (fun x0 => some (lex_digit x0))) fun (y21 : Int) =>
    Option.bind (bif (decide (y21 < (a0.size : Int))) then
      (Option.bind (bx a0 y21) fun (c29 : Int) =>
        some (c29 == 46))
      else
      (some false)) fun (j23 : Bool) =>
    Option.bind ((bif j23 then
      (Option.bind (lex_run_c a0 (IntKind.wrap .i64 (y21 + 1)) (fun x0 => some (lex_digit x0))) fun (y38 : Int) =>
        bif ((IntKind.wrap .i64 (y21 + y38)) == 0) then
        (some (Sum.inr 0))
        else
        (some (Sum.inl (IntKind.wrap .i64 (y21 + (IntKind.wrap .i64 (1 + y38)))))))
      else
      (some (Sum.inl y21)) : Option ((Int) ⊕ (Int)))) fun (j31 : (Int) ⊕ (Int)) =>
    match j31 with
    | Sum.inl j33 => bif (j33 == 0) then
      (some 0)
      else
      (Option.bind (bif (decide (j33 < (a0.size : Int))) then
          (Option.bind (bx a0 j33) fun (c48 : Int) =>
            bif (c48 == 101) then
            (some true)
            else
            (Option.bind (bx a0 j33) fun (c51 : Int) =>
              some (c51 == 69)))
          else
          (some false)) fun (j42 : Bool) =>
        Option.bind (bif j42 then
          (Option.bind (bif (decide ((IntKind.wrap .i64 (j33 + 1)) < (a0.size : Int))) then
              (Option.bind (bx a0 (IntKind.wrap .i64 (j33 + 1))) fun (c65 : Int) =>
                bif (c65 == 43) then
                (some true)
                else
                (Option.bind (bx a0 (IntKind.wrap .i64 (j33 + 1))) fun (c68 : Int) =>
                  some (c68 == 45)))
              else
              (some false)) fun (j59 : Bool) =>
            Option.bind (bif j59 then
              (some (IntKind.wrap .i64 ((IntKind.wrap .i64 (j33 + 1)) + 1)))
              else
              (some (IntKind.wrap .i64 (j33 + 1)))) fun (j70 : Int) =>
            Option.bind (lex_run_c a0 j70 (fun x0 => some (lex_digit x0))) fun (y76 : Int) =>
            Option.bind (bif (decide (y76 > 0)) then
              (some (IntKind.wrap .i64 (j70 + y76)))
              else
              (some j33)) fun (j78 : Int) =>
            some j78)
          else
          (some j33)) fun (j53 : Int) =>
        some j53)
    | Sum.inr v84 => some v84
  | Sum.inr v85 => some v85
theorem lex_number_ev (a0 : ByteArray) : OLe (lex_number_c a0) (lex_number a0) := by
  unfold lex_number_c lex_number
  exact (OLe.bind (OLe.bind (strings_HasPrefix_ev _ _) (fun _ => (OLe.cond (OLe.refl _) (OLe.bind (strings_HasPrefix_ev _ _) (fun _ => (OLe.refl _)))))) (fun _ => (OLe.bind (OLe.cond (OLe.bind (lex_run_ev _ _ (fun _ => OLe.refl _)) (fun _ => (OLe.cond (OLe.refl _) (OLe.refl _)))) (OLe.refl _)) (fun j => by cases j with | inl a => exact (OLe.bind (lex_run_ev _ _ (fun _ => OLe.refl _)) (fun _ => (OLe.bind (OLe.cond (OLe.bind (OLe.refl _) (fun _ => (OLe.refl _))) (OLe.refl _)) (fun _ => (OLe.bind (OLe.cond (OLe.bind (lex_run_ev _ _ (fun _ => OLe.refl _)) (fun _ => (OLe.cond (OLe.refl _) (OLe.refl _)))) (OLe.refl _)) (fun j => by cases j with | inl a => exact (OLe.cond (OLe.refl _) (OLe.bind (OLe.cond (OLe.bind (OLe.refl _) (fun _ => (OLe.cond (OLe.refl _) (OLe.bind (OLe.refl _) (fun _ => (OLe.refl _)))))) (OLe.refl _)) (fun _ => (OLe.bind (OLe.cond (OLe.bind (OLe.cond (OLe.bind (OLe.refl _) (fun _ => (OLe.cond (OLe.refl _) (OLe.bind (OLe.refl _) (fun _ => (OLe.refl _)))))) (OLe.refl _)) (fun _ => (OLe.bind (OLe.cond (OLe.refl _) (OLe.refl _)) (fun _ => (OLe.bind (lex_run_ev _ _ (fun _ => OLe.refl _)) (fun _ => (OLe.bind (OLe.cond (OLe.refl _) (OLe.refl _)) (fun _ => (OLe.refl _))))))))) (OLe.refl _)) (fun _ => (OLe.refl _)))))) | inr b => exact (OLe.refl _))))))) | inr b => exact (OLe.refl _)))))
noncomputable def lex_times_l16_c (a0 : ByteArray) : (Int × Int) → Option ((Int × Int) ⊕ (Int)) := fun s7 =>
  bif (decide (s7.2 < (a0.size : Int))) then
  (Option.bind (bx a0 s7.2) fun (c19 : Int) =>
    some (Sum.inl ((if 1099511627777 < (IntKind.wrap .i64 ((IntKind.wrap .i64 (s7.1 * 10)) + (IntKind.wrap .i64 (IntKind.wrap .u8 (c19 - 48))))) then 1099511627777 else (IntKind.wrap .i64 ((IntKind.wrap .i64 (s7.1 * 10)) + (IntKind.wrap .i64 (IntKind.wrap .u8 (c19 - 48)))))), (IntKind.wrap .i64 (s7.2 + 1)))))
  else
  (some (Sum.inr s7.1))
theorem lex_times_l16_ev (a0 : ByteArray) (s7 : Int × Int) : OLe (lex_times_l16_c a0 s7) (lex_times_l16 a0 s7) := by
  unfold lex_times_l16_c lex_times_l16
  exact (OLe.cond (OLe.bind (OLe.refl _) (fun _ => (OLe.refl _))) (OLe.refl _))
noncomputable def lex_times_c (a0 : ByteArray) (a1 : Int) : Option Int :=
  Option.bind (loopF 1000000 (lex_times_l16_c a0) (0, 0)) fun (r5 : Int) =>
  Option.bind (quox .i64 1099511627776 a1) fun (q21 : Int) =>
  bif (decide (r5 > (IntKind.wrap .i64 (q21 + 1)))) then
  (some 1099511627777)
  else
  (some (if 1099511627777 < (IntKind.wrap .i64 (r5 * a1)) then 1099511627777 else (IntKind.wrap .i64 (r5 * a1))))
theorem lex_times_ev (a0 : ByteArray) (a1 : Int) : OLe (lex_times_c a0 a1) (lex_times a0 a1) := by
  unfold lex_times_c lex_times
  exact (OLe.bind (OLe.loop (fun _ => lex_times_l16_ev _ _)) (fun _ => (OLe.bind (OLe.refl _) (fun _ => (OLe.cond (OLe.refl _) (OLe.refl _))))))
noncomputable def lex_span_l46_c (a0 : ByteArray) (s7 : Int × Int × Int) (y18 : Int) (y21 : Int) : Int → Option ((Int) ⊕ ((Unit) ⊕ ((Int × Int × Int) ⊕ (Int × Int)))) := fun s36 =>
  bif (decide (s36 < (lex_units.length : Int))) then
  (Option.bind (ix lex_units s36) fun (x49 : S62) =>
    Option.bind (bif (decide (s36 ≥ s7.2.1)) then
      (Option.bind (sx a0 (IntKind.wrap .i64 (s7.1 + y18)) (IntKind.wrap .i64 (s7.1 + (IntKind.wrap .i64 (y18 + y21))))) fun (s66 : ByteArray) =>
        some (s66.toList == x49.f0.toList))
      else
      (some false)) fun (j59 : Bool) =>
    bif j59 then
    (Option.bind (sx a0 s7.1 (IntKind.wrap .i64 (s7.1 + y18))) fun (s69 : ByteArray) =>
      Option.bind (lex_times_c s69 x49.f1) fun (y70 : Int) =>
      some (Sum.inr (Sum.inr (Sum.inl ((IntKind.wrap .i64 (s7.1 + (IntKind.wrap .i64 (y18 + y21)))), (IntKind.wrap .i64 (s36 + 1)), (if 1099511627777 < (IntKind.wrap .i64 (s7.2.2 + y70)) then 1099511627777 else (IntKind.wrap .i64 (s7.2.2 + y70))))))))
    else
    (some (Sum.inl (IntKind.wrap .i64 (s36 + 1)))))
  else
  (some (Sum.inr (Sum.inl ())))
theorem lex_span_l46_ev (a0 : ByteArray) (s7 : Int × Int × Int) (y18 : Int) (y21 : Int) (s36 : Int) : OLe (lex_span_l46_c a0 s7 y18 y21 s36) (lex_span_l46 a0 s7 y18 y21 s36) := by
  unfold lex_span_l46_c lex_span_l46
  exact (OLe.cond (OLe.bind (OLe.refl _) (fun _ => (OLe.bind (OLe.cond (OLe.bind (OLe.refl _) (fun _ => (OLe.refl _))) (OLe.refl _)) (fun _ => (OLe.cond (OLe.bind (OLe.refl _) (fun _ => (OLe.bind (lex_times_ev _ _) (fun _ => (OLe.refl _))))) (OLe.refl _)))))) (OLe.refl _))
noncomputable def lex_span_l16_c (a0 : ByteArray) : (Int × Int × Int) → Option ((Int × Int × Int) ⊕ (Int × Int)) := fun s7 =>
  Option.bind (lex_run_c a0 s7.1 (fun x0 => some (lex_digit x0))) fun (y18 : Int) =>
  bif (y18 == 0) then
  (some (Sum.inr (s7.1, s7.2.2)))
  else
  (Option.bind (lex_run_c a0 (IntKind.wrap .i64 (s7.1 + y18)) (fun x0 => some (lex_span_1 x0))) fun (y21 : Int) =>
    Option.bind (loopF 1000000 (lex_span_l46_c a0 s7 y18 y21) 0) fun (r34 : (Unit) ⊕ ((Int × Int × Int) ⊕ (Int × Int))) =>
    match r34 with
    | Sum.inl r42 => some (Sum.inr (s7.1, s7.2.2))
    | Sum.inr v72 => some v72)
theorem lex_span_l16_ev (a0 : ByteArray) (s7 : Int × Int × Int) : OLe (lex_span_l16_c a0 s7) (lex_span_l16 a0 s7) := by
  unfold lex_span_l16_c lex_span_l16
  exact (OLe.bind (lex_run_ev _ _ (fun _ => OLe.refl _)) (fun _ => (OLe.cond (OLe.refl _) (OLe.bind (lex_run_ev _ _ (fun _ => OLe.refl _)) (fun _ => (OLe.bind (OLe.loop (fun _ => lex_span_l46_ev _ _ _ _ _)) (fun j => by cases j with | inl a => exact (OLe.refl _) | inr b => exact (OLe.refl _))))))))
noncomputable def lex_span_c (a0 : ByteArray) : Option (Int × Int) :=
  Option.bind (loopF 1000000 (lex_span_l16_c a0) (0, 0, 0)) fun (r5 : Int × Int) =>
  some (r5.1, r5.2)
theorem lex_span_ev (a0 : ByteArray) : OLe (lex_span_c a0) (lex_span a0) := by
  unfold lex_span_c lex_span
  exact (OLe.bind (OLe.loop (fun _ => lex_span_l16_ev _ _)) (fun _ => (OLe.refl _)))
noncomputable def utf8_DecodeRuneInString_c (a0 : ByteArray) : Option (Int × Int) := utf8_DecodeRuneInString a0
theorem utf8_DecodeRuneInString_ev (a0 : ByteArray) : OLe (utf8_DecodeRuneInString_c a0) (utf8_DecodeRuneInString a0) := OLe.refl _
noncomputable def strconv_underscoreOK_l61_c (j12 : ByteArray) (j37 : Int × Int × Bool) : (Int × Int) → Option ((Int × Int) ⊕ ((Int) ⊕ (Bool))) := fun s51 =>
  bif (decide (s51.2 < (j12.size : Int))) then
  (Option.bind ((Option.bind (Option.bind (bx j12 s51.2) fun (c75 : Int) =>
        bif (decide (48 ≤ c75)) then
        (Option.bind (bx j12 s51.2) fun (c78 : Int) =>
          bif (decide (c78 ≤ 57)) then
          (some true)
          else
          (bif j37.2.2 then
            (Option.bind (bx j12 s51.2) fun (c82 : Int) =>
              bif (decide (97 ≤ (strconv_lower c82))) then
              (Option.bind (bx j12 s51.2) fun (c85 : Int) =>
                some (decide ((strconv_lower c85) ≤ 102)))
              else
              (some false))
            else
            (some false)))
        else
        (bif j37.2.2 then
          (Option.bind (bx j12 s51.2) fun (c88 : Int) =>
            bif (decide (97 ≤ (strconv_lower c88))) then
            (Option.bind (bx j12 s51.2) fun (c91 : Int) =>
              some (decide ((strconv_lower c91) ≤ 102)))
            else
            (some false))
          else
          (some false))) fun (j70 : Bool) =>
      bif j70 then
      (some (Sum.inl 48))
      else
      (Option.bind (bx j12 s51.2) fun (c94 : Int) =>
        bif (c94 == 95) then
        (bif (s51.1 != 48) then
          (some (Sum.inr (Sum.inr (Sum.inr false))))
          else
          (some (Sum.inl 95)))
        else
        (bif (s51.1 == 95) then
          (some (Sum.inr (Sum.inr (Sum.inr false))))
          else
          (some (Sum.inl 33)))) : Option ((Int) ⊕ ((Int × Int) ⊕ ((Int) ⊕ (Bool)))))) fun (j64 : (Int) ⊕ ((Int × Int) ⊕ ((Int) ⊕ (Bool)))) =>
    match j64 with
    | Sum.inl j66 => some (Sum.inl (j66, (IntKind.wrap .i64 (s51.2 + 1))))
    | Sum.inr v99 => some v99)
  else
  (some (Sum.inr (Sum.inl s51.1)))
theorem strconv_underscoreOK_l61_ev (j12 : ByteArray) (j37 : Int × Int × Bool) (s51 : Int × Int) : OLe (strconv_underscoreOK_l61_c j12 j37 s51) (strconv_underscoreOK_l61 j12 j37 s51) := by
  unfold strconv_underscoreOK_l61_c strconv_underscoreOK_l61
  exact (OLe.cond (OLe.bind (OLe.bind (OLe.bind (OLe.refl _) (fun _ => (OLe.cond (OLe.bind (OLe.refl _) (fun _ => (OLe.cond (OLe.refl _) (OLe.cond (OLe.bind (OLe.refl _) (fun _ => (OLe.cond (OLe.bind (OLe.refl _) (fun _ => (OLe.refl _))) (OLe.refl _)))) (OLe.refl _))))) (OLe.cond (OLe.bind (OLe.refl _) (fun _ => (OLe.cond (OLe.bind (OLe.refl _) (fun _ => (OLe.refl _))) (OLe.refl _)))) (OLe.refl _))))) (fun _ => (OLe.cond (OLe.refl _) (OLe.bind (OLe.refl _) (fun _ => (OLe.cond (OLe.cond (OLe.refl _) (OLe.refl _)) (OLe.cond (OLe.refl _) (OLe.refl _)))))))) (fun j => by cases j with | inl a => exact (OLe.refl _) | inr b => exact (OLe.refl _))) (OLe.refl _))
noncomputable def strconv_underscoreOK_c (a0 : ByteArray) : Option Bool :=
  Option.bind (bif (decide ((a0.size : Int) ≥ 1)) then
    (Option.bind (bx a0 0) fun (c7 : Int) =>
      bif (c7 == 45) then
      (some true)
      else
      (Option.bind (bx a0 0) fun (c10 : Int) =>
        some (c10 == 43)))
    else
    (some false)) fun (j1 : Bool) =>
  Option.bind (bif j1 then
    (Option.bind (sx a0 1 (a0.size : Int)) fun (s19 : ByteArray) =>
      some s19)
    else
    (some a0)) fun (j12 : ByteArray) =>
  Option.bind (bif (decide ((j12.size : Int) ≥ 2)) then
    (Option.bind (bx j12 0) fun (c26 : Int) =>
      bif (c26 == 48) then
      (Option.bind (bx j12 1) fun (c29 : Int) =>
        bif ((strconv_lower c29) == 98) then
        (some true)
        else
        (Option.bind (bx j12 1) fun (c32 : Int) =>
          bif ((strconv_lower c32) == 111) then
          (some true)
          else
          (Option.bind (bx j12 1) fun (c35 : Int) =>
            some ((strconv_lower c35) == 120))))
      else
      (some false))
    else
    (some false)) fun (j20 : Bool) =>
  Option.bind (bif j20 then
    (Option.bind (bx j12 1) fun (c43 : Int) =>
      some (48, 2, ((strconv_lower c43) == 120)))
    else
    (some (94, 0, false))) fun (j37 : Int × Int × Bool) =>
  Option.bind (loopF 1000000 (strconv_underscoreOK_l61_c j12 j37) (j37.1, j37.2.1)) fun (r49 : (Int) ⊕ (Bool)) =>
  match r49 with
  | Sum.inl r57 => some (r57 != 95)
  | Sum.inr v100 => some v100
theorem strconv_underscoreOK_ev (a0 : ByteArray) : OLe (strconv_underscoreOK_c a0) (strconv_underscoreOK a0) := by
  unfold strconv_underscoreOK_c strconv_underscoreOK
  exact (OLe.bind (OLe.cond (OLe.bind (OLe.refl _) (fun _ => (OLe.cond (OLe.refl _) (OLe.bind (OLe.refl _) (fun _ => (OLe.refl _)))))) (OLe.refl _)) (fun _ => (OLe.bind (OLe.cond (OLe.bind (OLe.refl _) (fun _ => (OLe.refl _))) (OLe.refl _)) (fun _ => (OLe.bind (OLe.cond (OLe.bind (OLe.refl _) (fun _ => (OLe.cond (OLe.bind (OLe.refl _) (fun _ => (OLe.cond (OLe.refl _) (OLe.bind (OLe.refl _) (fun _ => (OLe.cond (OLe.refl _) (OLe.bind (OLe.refl _) (fun _ => (OLe.refl _))))))))) (OLe.refl _)))) (OLe.refl _)) (fun _ => (OLe.bind (OLe.cond (OLe.bind (OLe.refl _) (fun _ => (OLe.refl _))) (OLe.refl _)) (fun _ => (OLe.bind (OLe.loop (fun _ => strconv_underscoreOK_l61_ev _ _ _)) (fun j => by cases j with | inl a => exact (OLe.refl _) | inr b => exact (OLe.refl _)))))))))))
noncomputable def strconv_ParseUint_f72_l123_c (a1 : Int) (j8 : ByteArray × Int) (j86 : Int) (q100 : Int) (l102 : List Int) : (Bool × Int × Int) → Option ((Bool × Int × Int) ⊕ (Bool × Int)) := fun s114 =>
  bif (decide (s114.2.2 < (l102.length : Int))) then
  (Option.bind (Option.bind (ix l102 s114.2.2) fun (x131 : Int) =>
      bif ((x131 == 95) && (a1 == 0)) then
      (some (true, s114.2.1))
      else
      (Option.bind (bif ((decide (48 ≤ x131)) && (decide (x131 ≤ 57))) then
          (some (IntKind.wrap .u8 (x131 - 48)))
          else
          (bif ((decide (97 ≤ (strconv_lower x131))) && (decide ((strconv_lower x131) ≤ 122))) then
            (some (IntKind.wrap .u8 ((IntKind.wrap .u8 ((strconv_lower x131) - 97)) + 10)))
            else
            (none))) fun (j151 : Int) =>
        bif (decide (j151 ≥ (IntKind.wrap .u8 j8.2))) then
        (none)
        else
        (bif (decide (s114.2.1 ≥ j86)) then
          (none)
          else
          (bif ((decide ((IntKind.wrap .u64 ((IntKind.wrap .u64 (s114.2.1 * (IntKind.wrap .u64 j8.2))) + (IntKind.wrap .u64 j151))) < (IntKind.wrap .u64 (s114.2.1 * (IntKind.wrap .u64 j8.2))))) || (decide ((IntKind.wrap .u64 ((IntKind.wrap .u64 (s114.2.1 * (IntKind.wrap .u64 j8.2))) + (IntKind.wrap .u64 j151))) > (IntKind.wrap .u64 (q100 - 1))))) then
            (none)
            else
            (some (s114.1, (IntKind.wrap .u64 ((IntKind.wrap .u64 (s114.2.1 * (IntKind.wrap .u64 j8.2))) + (IntKind.wrap .u64 j151))))))))) fun (j126 : Bool × Int) =>
    some (Sum.inl (j126.1, j126.2, (IntKind.wrap .i64 (s114.2.2 + 1)))))
  else
  (some (Sum.inr (s114.1, s114.2.1)))
theorem strconv_ParseUint_f72_l123_ev (a1 : Int) (j8 : ByteArray × Int) (j86 : Int) (q100 : Int) (l102 : List Int) (s114 : Bool × Int × Int) : OLe (strconv_ParseUint_f72_l123_c a1 j8 j86 q100 l102 s114) (strconv_ParseUint_f72_l123 a1 j8 j86 q100 l102 s114) := by
  unfold strconv_ParseUint_f72_l123_c strconv_ParseUint_f72_l123
  exact (OLe.cond (OLe.bind (OLe.bind (OLe.refl _) (fun _ => (OLe.cond (OLe.refl _) (OLe.bind (OLe.cond (OLe.refl _) (OLe.cond (OLe.refl _) (OLe.refl _))) (fun _ => (OLe.cond (OLe.refl _) (OLe.cond (OLe.refl _) (OLe.cond (OLe.refl _) (OLe.refl _))))))))) (fun _ => (OLe.refl _))) (OLe.refl _))
noncomputable def strconv_ParseUint_f72_c (a0 : ByteArray) (a1 : Int) (a2 : Int) : Option (Int × Unit) :=
  bif (a0.toList == (⟨#[]⟩ : ByteArray).toList) then
  (none)
  else
  (Option.bind (bif ((decide (2 ≤ a1)) && (decide (a1 ≤ 36))) then
      (some (a0, a1))
      else
      (bif (a1 == 0) then
        (Option.bind (bx a0 0) fun (c15 : Int) =>
          Option.bind (bif (c15 == 48) then
            (Option.bind (bif (decide ((a0.size : Int) ≥ 3)) then
                (Option.bind (bx a0 1) fun (c29 : Int) =>
                  some ((strconv_lower c29) == 98))
                else
                (some false)) fun (j23 : Bool) =>
              Option.bind (bif j23 then
                (Option.bind (sx a0 2 (a0.size : Int)) fun (s38 : ByteArray) =>
                  some (s38, 2))
                else
                (Option.bind (bif (decide ((a0.size : Int) ≥ 3)) then
                    (Option.bind (bx a0 1) fun (c45 : Int) =>
                      some ((strconv_lower c45) == 111))
                    else
                    (some false)) fun (j39 : Bool) =>
                  Option.bind (bif j39 then
                    (Option.bind (sx a0 2 (a0.size : Int)) fun (s54 : ByteArray) =>
                      some (s54, 8))
                    else
                    (Option.bind (bif (decide ((a0.size : Int) ≥ 3)) then
                        (Option.bind (bx a0 1) fun (c61 : Int) =>
                          some ((strconv_lower c61) == 120))
                        else
                        (some false)) fun (j55 : Bool) =>
                      Option.bind (bif j55 then
                        (Option.bind (sx a0 2 (a0.size : Int)) fun (s70 : ByteArray) =>
                          some (s70, 16))
                        else
                        (Option.bind (sx a0 1 (a0.size : Int)) fun (s72 : ByteArray) =>
                          some (s72, 8))) fun (j63 : ByteArray × Int) =>
                      some (j63.1, j63.2))) fun (j47 : ByteArray × Int) =>
                  some (j47.1, j47.2))) fun (j31 : ByteArray × Int) =>
              some (j31.1, j31.2))
            else
            (some (a0, 10))) fun (j17 : ByteArray × Int) =>
          some (j17.1, j17.2))
        else
        (none))) fun (j8 : ByteArray × Int) =>
    Option.bind (bif (a2 == 0) then
      (some 64)
      else
      (bif ((decide (a2 < 0)) || (decide (a2 > 64))) then
        (none)
        else
        (some a2))) fun (j73 : Int) =>
    Option.bind (bif (j8.2 == 10) then
      (some 1844674407370955162)
      else
      (Option.bind (bif (j8.2 == 16) then
          (some 1152921504606846976)
          else
          (Option.bind (quox .u64 18446744073709551615 (IntKind.wrap .u64 j8.2)) fun (q98 : Int) =>
            some (IntKind.wrap .u64 (q98 + 1)))) fun (j92 : Int) =>
        some j92)) fun (j86 : Int) =>
    Option.bind (shlx .u64 1 (IntKind.wrap .u64 j73)) fun (q100 : Int) =>
    Option.bind (sb j8.1) fun (l102 : List Int) =>
    Option.bind (loopF 1000000 (strconv_ParseUint_f72_l123_c a1 j8 j86 q100 l102) (false, 0, 0)) fun (r112 : Bool × Int) =>
    Option.bind (bif r112.1 then
      (Option.bind (strconv_underscoreOK_c a0) fun (y179 : Bool) =>
        some (!y179))
      else
      (some false)) fun (j173 : Bool) =>
    bif j173 then
    (none)
    else
    (some (r112.2, ())))
theorem strconv_ParseUint_f72_ev (a0 : ByteArray) (a1 : Int) (a2 : Int) : OLe (strconv_ParseUint_f72_c a0 a1 a2) (strconv_ParseUint_f72 a0 a1 a2) := by
  unfold strconv_ParseUint_f72_c strconv_ParseUint_f72
  exact (OLe.cond (OLe.refl _) (OLe.bind (OLe.cond (OLe.refl _) (OLe.cond (OLe.bind (OLe.refl _) (fun _ => (OLe.bind (OLe.cond (OLe.bind (OLe.cond (OLe.bind (OLe.refl _) (fun _ => (OLe.refl _))) (OLe.refl _)) (fun _ => (OLe.bind (OLe.cond (OLe.bind (OLe.refl _) (fun _ => (OLe.refl _))) (OLe.bind (OLe.cond (OLe.bind (OLe.refl _) (fun _ => (OLe.refl _))) (OLe.refl _)) (fun _ => (OLe.bind (OLe.cond (OLe.bind (OLe.refl _) (fun _ => (OLe.refl _))) (OLe.bind (OLe.cond (OLe.bind (OLe.refl _) (fun _ => (OLe.refl _))) (OLe.refl _)) (fun _ => (OLe.bind (OLe.cond (OLe.bind (OLe.refl _) (fun _ => (OLe.refl _))) (OLe.bind (OLe.refl _) (fun _ => (OLe.refl _)))) (fun _ => (OLe.refl _)))))) (fun _ => (OLe.refl _)))))) (fun _ => (OLe.refl _))))) (OLe.refl _)) (fun _ => (OLe.refl _))))) (OLe.refl _))) (fun _ => (OLe.bind (OLe.cond (OLe.refl _) (OLe.cond (OLe.refl _) (OLe.refl _))) (fun _ => (OLe.bind (OLe.cond (OLe.refl _) (OLe.bind (OLe.cond (OLe.refl _) (OLe.bind (OLe.refl _) (fun _ => (OLe.refl _)))) (fun _ => (OLe.refl _)))) (fun _ => (OLe.bind (OLe.refl _) (fun _ => (OLe.bind (OLe.refl _) (fun _ => (OLe.bind (OLe.loop (fun _ => strconv_ParseUint_f72_l123_ev _ _ _ _ _ _)) (fun _ => (OLe.bind (OLe.cond (OLe.bind (strconv_underscoreOK_ev _) (fun _ => (OLe.refl _))) (OLe.refl _)) (fun _ => (OLe.cond (OLe.refl _) (OLe.refl _)))))))))))))))))
noncomputable def strconv_ParseUint_c (a0 : ByteArray) (a1 : Int) (a2 : Int) : Option (Int × Unit) :=
  Option.bind (strconv_ParseUint_f72_c a0 a1 a2) fun (y1 : Int × Unit) =>
  some (y1.1, ())
theorem strconv_ParseUint_ev (a0 : ByteArray) (a1 : Int) (a2 : Int) : OLe (strconv_ParseUint_c a0 a1 a2) (strconv_ParseUint a0 a1 a2) := by
  unfold strconv_ParseUint_c strconv_ParseUint
  exact (OLe.bind (strconv_ParseUint_f72_ev _ _ _) (fun _ => (OLe.refl _)))
noncomputable def lex_escape_c (a0 : ByteArray) : Option (Int × Int) :=
  bif (a0.toList == (⟨#[]⟩ : ByteArray).toList) then
  (some (0, 0))
  else
  (Option.bind (bx a0 0) fun (c2 : Int) =>
    Option.bind ((Option.bind ((bif (c2 == 110) then
        (some (Sum.inl 10))
        else
        (Option.bind (bif (c2 == 92) then
            (some (c2 == 92))
            else
            (Option.bind (bif (c2 == 34) then
                (some (c2 == 34))
                else
                (some (c2 == 39))) fun (j23 : Bool) =>
              some j23)) fun (j17 : Bool) =>
          bif j17 then
          (some (Sum.inl c2))
          else
          (bif (c2 == 116) then
            (some (Sum.inr (Sum.inr (9, 1))))
            else
            (bif (c2 == 114) then
              (some (Sum.inr (Sum.inr (13, 1))))
              else
              (bif (c2 == 120) then
                (Option.bind ((Option.bind (bif (decide ((a0.size : Int) > 2)) then
                      (Option.bind (bx a0 1) fun (c39 : Int) =>
                        bif (lex_hex c39) then
                        (Option.bind (bx a0 2) fun (c42 : Int) =>
                          some (lex_hex c42))
                        else
                        (some false))
                      else
                      (some false)) fun (j33 : Bool) =>
                    Option.bind ((bif j33 then
                      (Option.bind (sx a0 1 3) fun (s52 : ByteArray) =>
                        Option.bind (strconv_ParseUint_c s52 16 8) fun (y53 : Int × Unit) =>
                        bif (decide (y53.1 < 128)) then
                        (some (Sum.inr (Sum.inr ((IntKind.wrap .u8 y53.1), 3))))
                        else
                        (some (Sum.inl ())))
                      else
                      (some (Sum.inl ())) : Option ((Unit) ⊕ ((Unit) ⊕ (Int × Int))))) fun (j44 : (Unit) ⊕ ((Unit) ⊕ (Int × Int))) =>
                    match j44 with
                    | Sum.inl j46 => some (Sum.inl ())
                    | Sum.inr v56 => some v56 : Option ((Unit) ⊕ (Int × Int)))) fun (v57 : (Unit) ⊕ (Int × Int)) =>
                  some (Sum.inr v57))
                else
                (some (Sum.inr (Sum.inl ()))))))) : Option ((Int) ⊕ ((Unit) ⊕ (Int × Int))))) fun (j10 : (Int) ⊕ ((Unit) ⊕ (Int × Int))) =>
      match j10 with
      | Sum.inl j12 => some (Sum.inr (j12, 1))
      | Sum.inr v60 => some v60 : Option ((Unit) ⊕ (Int × Int)))) fun (j4 : (Unit) ⊕ (Int × Int)) =>
    match j4 with
    | Sum.inl j6 => some (0, 0)
    | Sum.inr v61 => some v61)
theorem lex_escape_ev (a0 : ByteArray) : OLe (lex_escape_c a0) (lex_escape a0) := by
  unfold lex_escape_c lex_escape
  exact (OLe.cond (OLe.refl _) (OLe.bind (OLe.refl _) (fun _ => (OLe.bind (OLe.bind (OLe.cond (OLe.refl _) (OLe.bind (OLe.cond (OLe.refl _) (OLe.bind (OLe.cond (OLe.refl _) (OLe.refl _)) (fun _ => (OLe.refl _)))) (fun _ => (OLe.cond (OLe.refl _) (OLe.cond (OLe.refl _) (OLe.cond (OLe.refl _) (OLe.cond (OLe.bind (OLe.bind (OLe.cond (OLe.bind (OLe.refl _) (fun _ => (OLe.cond (OLe.bind (OLe.refl _) (fun _ => (OLe.refl _))) (OLe.refl _)))) (OLe.refl _)) (fun _ => (OLe.bind (OLe.cond (OLe.bind (OLe.refl _) (fun _ => (OLe.bind (strconv_ParseUint_ev _ _ _) (fun _ => (OLe.cond (OLe.refl _) (OLe.refl _)))))) (OLe.refl _)) (fun j => by cases j with | inl a => exact (OLe.refl _) | inr b => exact (OLe.refl _))))) (fun _ => (OLe.refl _))) (OLe.refl _)))))))) (fun j => by cases j with | inl a => exact (OLe.refl _) | inr b => exact (OLe.refl _))) (fun j => by cases j with | inl a => exact (OLe.refl _) | inr b => exact (OLe.refl _))))))
noncomputable def strings_Builder_WriteByte_c (a0 : S50) (a1 : Int) : Option (Unit × S50) :=
  Option.bind (app ((strings_Builder_copyCheck (⟨a0.f1⟩ : S50)).f1) [a1]) fun (zs14 : List Int) =>
  some ((), (⟨zs14⟩ : S50))
theorem strings_Builder_WriteByte_ev (a0 : S50) (a1 : Int) : OLe (strings_Builder_WriteByte_c a0 a1) (strings_Builder_WriteByte a0 a1) := by
  unfold strings_Builder_WriteByte_c strings_Builder_WriteByte
  exact (OLe.bind (OLe.refl _) (fun _ => (OLe.refl _)))
noncomputable def utf8_appendRuneNonASCII_f79_c (a0 : List Int) (a1 : Int) : Option (List Int) :=
  bif (decide ((IntKind.wrap .u32 a1) ≤ 2047)) then
  (Option.bind (app a0 [(bitOr .u8 192 (IntKind.wrap .u8 (shr .i32 a1 6))), (bitOr .u8 128 (bitAnd .u8 (IntKind.wrap .u8 a1) 63))]) fun (zs6 : List Int) =>
    some zs6)
  else
  (Option.bind (bif (decide ((IntKind.wrap .u32 a1) < 55296)) then
      (some (decide ((IntKind.wrap .u32 a1) < 55296)))
      else
      (some ((decide (57343 < (IntKind.wrap .u32 a1))) && (decide ((IntKind.wrap .u32 a1) ≤ 65535))))) fun (j12 : Bool) =>
    bif j12 then
    (Option.bind (app a0 [(bitOr .u8 224 (IntKind.wrap .u8 (shr .i32 a1 12))), (bitOr .u8 128 (bitAnd .u8 (IntKind.wrap .u8 (shr .i32 a1 6)) 63)), (bitOr .u8 128 (bitAnd .u8 (IntKind.wrap .u8 a1) 63))]) fun (zs29 : List Int) =>
      some zs29)
    else
    (bif ((decide ((IntKind.wrap .u32 a1) > 65535)) && (decide ((IntKind.wrap .u32 a1) ≤ 1114111))) then
      (Option.bind (app a0 [(bitOr .u8 240 (IntKind.wrap .u8 (shr .i32 a1 18))), (bitOr .u8 128 (bitAnd .u8 (IntKind.wrap .u8 (shr .i32 a1 12)) 63)), (bitOr .u8 128 (bitAnd .u8 (IntKind.wrap .u8 (shr .i32 a1 6)) 63)), (bitOr .u8 128 (bitAnd .u8 (IntKind.wrap .u8 a1) 63))]) fun (zs46 : List Int) =>
        some zs46)
      else
      (Option.bind (app a0 [239, 191, 189]) fun (zs56 : List Int) =>
        some zs56)))
theorem utf8_appendRuneNonASCII_f79_ev (a0 : List Int) (a1 : Int) : OLe (utf8_appendRuneNonASCII_f79_c a0 a1) (utf8_appendRuneNonASCII_f79 a0 a1) := by
  unfold utf8_appendRuneNonASCII_f79_c utf8_appendRuneNonASCII_f79
  exact (OLe.cond (OLe.bind (OLe.refl _) (fun _ => (OLe.refl _))) (OLe.bind (OLe.cond (OLe.refl _) (OLe.refl _)) (fun _ => (OLe.cond (OLe.bind (OLe.refl _) (fun _ => (OLe.refl _))) (OLe.cond (OLe.bind (OLe.refl _) (fun _ => (OLe.refl _))) (OLe.bind (OLe.refl _) (fun _ => (OLe.refl _))))))))
noncomputable def utf8_AppendRune_f71_c (a0 : List Int) (a1 : Int) : Option (List Int) :=
  bif (decide ((IntKind.wrap .u32 a1) ≤ 127)) then
  (Option.bind (app a0 [(IntKind.wrap .u8 a1)]) fun (zs6 : List Int) =>
    some zs6)
  else
  (Option.bind (utf8_appendRuneNonASCII_f79_c a0 a1) fun (y12 : (List Int)) =>
    some y12)
theorem utf8_AppendRune_f71_ev (a0 : List Int) (a1 : Int) : OLe (utf8_AppendRune_f71_c a0 a1) (utf8_AppendRune_f71 a0 a1) := by
  unfold utf8_AppendRune_f71_c utf8_AppendRune_f71
  exact (OLe.cond (OLe.bind (OLe.refl _) (fun _ => (OLe.refl _))) (OLe.bind (utf8_appendRuneNonASCII_f79_ev _ _) (fun _ => (OLe.refl _))))
noncomputable def strings_Builder_WriteRune_c (a0 : S50) (a1 : Int) : Option (Int × Unit × S50) :=
  Option.bind (utf8_AppendRune_f71_c ((strings_Builder_copyCheck (⟨a0.f1⟩ : S50)).f1) a1) fun (y10 : (List Int)) =>
  some ((IntKind.wrap .i64 ((y10.length : Int) - (((strings_Builder_copyCheck (⟨a0.f1⟩ : S50)).f1).length : Int))), (), (⟨y10⟩ : S50))
theorem strings_Builder_WriteRune_ev (a0 : S50) (a1 : Int) : OLe (strings_Builder_WriteRune_c a0 a1) (strings_Builder_WriteRune a0 a1) := by
  unfold strings_Builder_WriteRune_c strings_Builder_WriteRune
  exact (OLe.bind (utf8_AppendRune_f71_ev _ _) (fun _ => (OLe.refl _)))
noncomputable def lex_quoted_l32_c (a0 : ByteArray) (c2 : Int) : (Unit × (List Int) × Int) → Option ((Unit × (List Int) × Int) ⊕ ((Unit) ⊕ (ByteArray × Int))) := fun s16 =>
  bif (decide (s16.2.2 < (a0.size : Int))) then
  (Option.bind (sx a0 s16.2.2 (a0.size : Int)) fun (s36 : ByteArray) =>
    Option.bind (utf8_DecodeRuneInString_c s36) fun (y37 : Int × Int) =>
    bif (y37.1 == (IntKind.wrap .i32 c2)) then
    (Option.bind (strings_Builder_String (⟨s16.2.1⟩ : S50)) fun (y40 : ByteArray) =>
      some (Sum.inr (Sum.inr (y40, (IntKind.wrap .i64 (s16.2.2 + 1))))))
    else
    (Option.bind (bif ((y37.1 == 65533) && (y37.2 == 1)) then
        (some ((y37.1 == 65533) && (y37.2 == 1)))
        else
        (some (y37.1 == 10))) fun (j51 : Bool) =>
      bif j51 then
      (some (Sum.inr (Sum.inr ((⟨#[]⟩ : ByteArray), 0))))
      else
      (Option.bind ((bif (y37.1 == 92) then
          (Option.bind (sx a0 (IntKind.wrap .i64 (s16.2.2 + 1)) (a0.size : Int)) fun (s72 : ByteArray) =>
            Option.bind (lex_escape_c s72) fun (y73 : Int × Int) =>
            bif (y73.2 == 0) then
            (some (Sum.inr (Sum.inr (Sum.inr ((⟨#[]⟩ : ByteArray), 0)))))
            else
            (Option.bind (strings_Builder_WriteByte_c (⟨s16.2.1⟩ : S50) y73.1) fun (y76 : Unit × S50) =>
              some (Sum.inl ((IntKind.wrap .i64 (s16.2.2 + (IntKind.wrap .i64 (1 + y73.2)))), (), y76.2.f1))))
          else
          (Option.bind (strings_Builder_WriteRune_c (⟨s16.2.1⟩ : S50) y37.1) fun (y87 : Int × Unit × S50) =>
            some (Sum.inl ((IntKind.wrap .i64 (s16.2.2 + y37.2)), (), y87.2.2.f1))) : Option ((Int × Unit × (List Int)) ⊕ ((Unit × (List Int) × Int) ⊕ ((Unit) ⊕ (ByteArray × Int)))))) fun (j58 : (Int × Unit × (List Int)) ⊕ ((Unit × (List Int) × Int) ⊕ ((Unit) ⊕ (ByteArray × Int)))) =>
        match j58 with
        | Sum.inl j60 => some (Sum.inl ((), j60.2.2, j60.1))
        | Sum.inr v98 => some v98)))
  else
  (some (Sum.inr (Sum.inl ())))
theorem lex_quoted_l32_ev (a0 : ByteArray) (c2 : Int) (s16 : Unit × (List Int) × Int) : OLe (lex_quoted_l32_c a0 c2 s16) (lex_quoted_l32 a0 c2 s16) := by
  unfold lex_quoted_l32_c lex_quoted_l32
  exact (OLe.cond (OLe.bind (OLe.refl _) (fun _ => (OLe.bind (utf8_DecodeRuneInString_ev _) (fun _ => (OLe.cond (OLe.bind (OLe.refl _) (fun _ => (OLe.refl _))) (OLe.bind (OLe.cond (OLe.refl _) (OLe.refl _)) (fun _ => (OLe.cond (OLe.refl _) (OLe.bind (OLe.cond (OLe.bind (OLe.refl _) (fun _ => (OLe.bind (lex_escape_ev _) (fun _ => (OLe.cond (OLe.refl _) (OLe.bind (strings_Builder_WriteByte_ev _ _) (fun _ => (OLe.refl _)))))))) (OLe.bind (strings_Builder_WriteRune_ev _ _) (fun _ => (OLe.refl _)))) (fun j => by cases j with | inl a => exact (OLe.refl _) | inr b => exact (OLe.refl _))))))))))) (OLe.refl _))
noncomputable def lex_quoted_c (a0 : ByteArray) : Option (ByteArray × Int) :=
  Option.bind (bx a0 0) fun (c2 : Int) =>
  Option.bind (loopF 1000000 (lex_quoted_l32_c a0 c2) ((), [], 1)) fun (r14 : (Unit) ⊕ (ByteArray × Int)) =>
  match r14 with
  | Sum.inl r28 => some ((⟨#[]⟩ : ByteArray), 0)
  | Sum.inr v99 => some v99
theorem lex_quoted_ev (a0 : ByteArray) : OLe (lex_quoted_c a0) (lex_quoted a0) := by
  unfold lex_quoted_c lex_quoted
  exact (OLe.bind (OLe.refl _) (fun _ => (OLe.bind (OLe.loop (fun _ => lex_quoted_l32_ev _ _ _)) (fun j => by cases j with | inl a => exact (OLe.refl _) | inr b => exact (OLe.refl _)))))
noncomputable def lex_one_l89_c (a0 : ByteArray) : Int → Option ((Int) ⊕ ((Unit) ⊕ (S27 × Int))) := fun s79 =>
  bif (decide (s79 < (lex_signs.length : Int))) then
  (Option.bind (ix lex_signs s79) fun (x92 : ByteArray) =>
    Option.bind (strings_HasPrefix_c a0 x92) fun (y101 : Bool) =>
    bif y101 then
    (some (Sum.inr (Sum.inr ((⟨5, x92, 0⟩ : S27), (x92.size : Int)))))
    else
    (some (Sum.inl (IntKind.wrap .i64 (s79 + 1)))))
  else
  (some (Sum.inr (Sum.inl ())))
theorem lex_one_l89_ev (a0 : ByteArray) (s79 : Int) : OLe (lex_one_l89_c a0 s79) (lex_one_l89 a0 s79) := by
  unfold lex_one_l89_c lex_one_l89
  exact (OLe.cond (OLe.bind (OLe.refl _) (fun _ => (OLe.bind (strings_HasPrefix_ev _ _) (fun _ => (OLe.cond (OLe.refl _) (OLe.refl _)))))) (OLe.refl _))
noncomputable def lex_one_c (a0 : ByteArray) : Option (S27 × Int) :=
  Option.bind (bx a0 0) fun (c2 : Int) =>
  bif (lex_letter c2) then
  (Option.bind (lex_run_c a0 0 (fun x0 => some (lex_one_1 x0))) fun (y5 : Int) =>
    Option.bind (sx a0 0 y5) fun (s8 : ByteArray) =>
    some ((⟨1, s8, 0⟩ : S27), y5))
  else
  (bif ((lex_digit c2) || (c2 == 46)) then
    (Option.bind (lex_number_c a0) fun (y20 : Int) =>
      Option.bind (lex_span_c a0) fun (y22 : Int × Int) =>
      Option.bind (bif (decide (y22.1 > y20)) then
        (some (3, y22.1))
        else
        (some (2, y20))) fun (j24 : Int × Int) =>
      Option.bind (bif (decide (j24.2 < (a0.size : Int))) then
        (Option.bind (bx a0 j24.2) fun (c36 : Int) =>
          bif (lex_letter c36) then
          (some true)
          else
          (Option.bind (bx a0 j24.2) fun (c39 : Int) =>
            bif (lex_digit c39) then
            (some true)
            else
            (Option.bind (bx a0 j24.2) fun (c42 : Int) =>
              some (c42 == 46))))
        else
        (some false)) fun (j30 : Bool) =>
      bif j30 then
      (some ((⟨0, (⟨#[]⟩ : ByteArray), 0⟩ : S27), 0))
      else
      (Option.bind (sx a0 0 j24.2) fun (s50 : ByteArray) =>
        some ((⟨j24.1, s50, 0⟩ : S27), j24.2)))
    else
    (bif ((c2 == 34) || (c2 == 39)) then
      (Option.bind (lex_quoted_c a0) fun (y60 : ByteArray × Int) =>
        some ((⟨4, y60.1, 0⟩ : S27), y60.2))
      else
      (Option.bind (loopF 1000000 (lex_one_l89_c a0) 0) fun (r77 : (Unit) ⊕ (S27 × Int)) =>
        match r77 with
        | Sum.inl r85 => some ((⟨0, (⟨#[]⟩ : ByteArray), 0⟩ : S27), 0)
        | Sum.inr v112 => some v112)))
theorem lex_one_ev (a0 : ByteArray) : OLe (lex_one_c a0) (lex_one a0) := by
  unfold lex_one_c lex_one
  exact (OLe.bind (OLe.refl _) (fun _ => (OLe.cond (OLe.bind (lex_run_ev _ _ (fun _ => OLe.refl _)) (fun _ => (OLe.bind (OLe.refl _) (fun _ => (OLe.refl _))))) (OLe.cond (OLe.bind (lex_number_ev _) (fun _ => (OLe.bind (lex_span_ev _) (fun _ => (OLe.bind (OLe.cond (OLe.refl _) (OLe.refl _)) (fun _ => (OLe.bind (OLe.cond (OLe.bind (OLe.refl _) (fun _ => (OLe.cond (OLe.refl _) (OLe.bind (OLe.refl _) (fun _ => (OLe.cond (OLe.refl _) (OLe.bind (OLe.refl _) (fun _ => (OLe.refl _))))))))) (OLe.refl _)) (fun _ => (OLe.cond (OLe.refl _) (OLe.bind (OLe.refl _) (fun _ => (OLe.refl _)))))))))))) (OLe.cond (OLe.bind (lex_quoted_ev _) (fun _ => (OLe.refl _))) (OLe.bind (OLe.loop (fun _ => lex_one_l89_ev _ _)) (fun j => by cases j with | inl a => exact (OLe.refl _) | inr b => exact (OLe.refl _))))))))
noncomputable def lex_alone_c (a0 : ByteArray) (a1 : Int) : Option Bool :=
  bif (a0.toList == (⟨#[]⟩ : ByteArray).toList) then
  (some false)
  else
  (Option.bind (lex_one_c a0) fun (y2 : S27 × Int) =>
    some ((y2.2 == (a0.size : Int)) && (y2.1.f0 == a1)))
theorem lex_alone_ev (a0 : ByteArray) (a1 : Int) : OLe (lex_alone_c a0 a1) (lex_alone a0 a1) := by
  unfold lex_alone_c lex_alone
  exact (OLe.cond (OLe.refl _) (OLe.bind (lex_one_ev _) (fun _ => (OLe.refl _))))
noncomputable def strings_Builder_WriteString_c (a0 : S50) (a1 : ByteArray) : Option (Int × Unit × S50) :=
  Option.bind (app ((strings_Builder_copyCheck (⟨a0.f1⟩ : S50)).f1) (bytesOf a1)) fun (zs10 : List Int) =>
  some ((a1.size : Int), (), (⟨zs10⟩ : S50))
theorem strings_Builder_WriteString_ev (a0 : S50) (a1 : ByteArray) : OLe (strings_Builder_WriteString_c a0 a1) (strings_Builder_WriteString a0 a1) := by
  unfold strings_Builder_WriteString_c strings_Builder_WriteString
  exact (OLe.bind (OLe.refl _) (fun _ => (OLe.refl _)))
noncomputable def lex_skip_l20_c (a1 : Int) (s2 : ByteArray) : (Nat × Bool) → Option ((Nat × Bool) ⊕ ((Unit) ⊕ (Int))) := fun s10 =>
  bif decide (s10.1 < s2.size) then
  (Option.bind ((bif ((runeAt s2 s10.1) == 10) then
      (some (Sum.inl false))
      else
      (Option.bind ((bif (((s10.2 || ((runeAt s2 s10.1) == 32)) || ((runeAt s2 s10.1) == 9)) || ((runeAt s2 s10.1) == 13)) then
          (some (Sum.inl s10.2))
          else
          (bif ((runeAt s2 s10.1) == 35) then
            (some (Sum.inl true))
            else
            (some (Sum.inr (Sum.inr (Sum.inr (Sum.inr (IntKind.wrap .i64 (a1 + (s10.1 : Int))))))))) : Option ((Bool) ⊕ ((Bool) ⊕ ((Nat × Bool) ⊕ ((Unit) ⊕ (Int))))))) fun (j38 : (Bool) ⊕ ((Bool) ⊕ ((Nat × Bool) ⊕ ((Unit) ⊕ (Int))))) =>
        match j38 with
        | Sum.inl j40 => some (Sum.inl j40)
        | Sum.inr v46 => some v46) : Option ((Bool) ⊕ ((Nat × Bool) ⊕ ((Unit) ⊕ (Int)))))) fun (j23 : (Bool) ⊕ ((Nat × Bool) ⊕ ((Unit) ⊕ (Int)))) =>
    match j23 with
    | Sum.inl j25 => some (Sum.inl ((s10.1 + runeW s2 s10.1), j25))
    | Sum.inr v47 => some v47)
  else
  (some (Sum.inr (Sum.inl ())))
theorem lex_skip_l20_ev (a1 : Int) (s2 : ByteArray) (s10 : Nat × Bool) : OLe (lex_skip_l20_c a1 s2 s10) (lex_skip_l20 a1 s2 s10) := by
  unfold lex_skip_l20_c lex_skip_l20
  exact (OLe.cond (OLe.bind (OLe.cond (OLe.refl _) (OLe.bind (OLe.cond (OLe.refl _) (OLe.cond (OLe.refl _) (OLe.refl _))) (fun j => by cases j with | inl a => exact (OLe.refl _) | inr b => exact (OLe.refl _)))) (fun j => by cases j with | inl a => exact (OLe.refl _) | inr b => exact (OLe.refl _))) (OLe.refl _))
noncomputable def lex_skip_c (a0 : ByteArray) (a1 : Int) : Option Int :=
  Option.bind (sx a0 a1 (a0.size : Int)) fun (s2 : ByteArray) =>
  Option.bind (loopF 1000000 (lex_skip_l20_c a1 s2) (0, false)) fun (r8 : (Unit) ⊕ (Int)) =>
  match r8 with
  | Sum.inl r16 => some (a0.size : Int)
  | Sum.inr v48 => some v48
theorem lex_skip_ev (a0 : ByteArray) (a1 : Int) : OLe (lex_skip_c a0 a1) (lex_skip a0 a1) := by
  unfold lex_skip_c lex_skip
  exact (OLe.bind (OLe.refl _) (fun _ => (OLe.bind (OLe.loop (fun _ => lex_skip_l20_ev _ _ _)) (fun j => by cases j with | inl a => exact (OLe.refl _) | inr b => exact (OLe.refl _)))))
noncomputable def lex_Tokens_l32_c (a0 : ByteArray) : ((List S27) × Int) → Option (((List S27) × Int) ⊕ (((List S27)) ⊕ ((List S27) × Int × Int))) := fun s14 =>
  bif (decide (s14.2 < (a0.size : Int))) then
  (Option.bind (sx a0 s14.2 (a0.size : Int)) fun (s36 : ByteArray) =>
    Option.bind (lex_one_c s36) fun (y37 : S27 × Int) =>
    bif (y37.2 == 0) then
    (some (Sum.inr (Sum.inr ([], 130, s14.2))))
    else
    (Option.bind (app s14.1 [(⟨y37.1.f0, y37.1.f1, s14.2⟩ : S27)]) fun (zs45 : List S27) =>
      Option.bind (lex_skip_c a0 (IntKind.wrap .i64 (s14.2 + y37.2))) fun (y51 : Int) =>
      some (Sum.inl (zs45, y51))))
  else
  (some (Sum.inr (Sum.inl s14.1)))
theorem lex_Tokens_l32_ev (a0 : ByteArray) (s14 : (List S27) × Int) : OLe (lex_Tokens_l32_c a0 s14) (lex_Tokens_l32 a0 s14) := by
  unfold lex_Tokens_l32_c lex_Tokens_l32
  exact (OLe.cond (OLe.bind (OLe.refl _) (fun _ => (OLe.bind (lex_one_ev _) (fun _ => (OLe.cond (OLe.refl _) (OLe.bind (OLe.refl _) (fun _ => (OLe.bind (lex_skip_ev _ _) (fun _ => (OLe.refl _)))))))))) (OLe.refl _))
noncomputable def lex_Tokens_c (a0 : ByteArray) : Option ((List S27) × Int × Int) :=
  bif (decide ((a0.size : Int) > 65536)) then
  (some ([], 4, 0))
  else
  (Option.bind (lex_skip_c a0 0) fun (y2 : Int) =>
    Option.bind (loopF 1000000 (lex_Tokens_l32_c a0) ([], y2)) fun (r12 : ((List S27)) ⊕ ((List S27) × Int × Int)) =>
    match r12 with
    | Sum.inl r24 => Option.bind (app r24 [(⟨0, (⟨#[]⟩ : ByteArray), (a0.size : Int)⟩ : S27)]) fun (zs57 : List S27) =>
      bif (decide ((zs57.length : Int) > 4096)) then
      (some ([], 7, 0))
      else
      (some (zs57, 0, 0))
    | Sum.inr v64 => some v64)
theorem lex_Tokens_ev (a0 : ByteArray) : OLe (lex_Tokens_c a0) (lex_Tokens a0) := by
  unfold lex_Tokens_c lex_Tokens
  exact (OLe.cond (OLe.refl _) (OLe.bind (lex_skip_ev _ _) (fun _ => (OLe.bind (OLe.loop (fun _ => lex_Tokens_l32_ev _ _)) (fun j => by cases j with | inl a => exact (OLe.bind (OLe.refl _) (fun _ => (OLe.cond (OLe.refl _) (OLe.refl _)))) | inr b => exact (OLe.refl _))))))
noncomputable def lex_Span_c (a0 : ByteArray) : Option (Int × Int) :=
  Option.bind (lex_alone_c a0 3) fun (y1 : Bool) =>
  bif (!y1) then
  (some (0, 130))
  else
  (Option.bind (lex_span_c a0) fun (y4 : Int × Int) =>
    bif (decide (y4.2 > 1099511627776)) then
    (some (0, 7))
    else
    (some (y4.2, 0)))
theorem lex_Span_ev (a0 : ByteArray) : OLe (lex_Span_c a0) (lex_Span a0) := by
  unfold lex_Span_c lex_Span
  exact (OLe.bind (lex_alone_ev _ _) (fun _ => (OLe.cond (OLe.refl _) (OLe.bind (lex_span_ev _) (fun _ => (OLe.cond (OLe.refl _) (OLe.refl _)))))))
noncomputable def strconv_FormatInt_c (a0 a1 : Int) : Option ByteArray := strconv_FormatInt a0 a1
theorem strconv_FormatInt_ev (a0 a1 : Int) : OLe (strconv_FormatInt_c a0 a1) (strconv_FormatInt a0 a1) := OLe.refl _
noncomputable def lex_SpanText_l50_c : (Unit × (List Int) × Int × Int) → Option ((Unit × (List Int) × Int × Int) ⊕ (Unit × (List Int))) := fun s29 =>
  bif (decide (s29.2.2.2 < (lex_units.length : Int))) then
  (Option.bind (ix lex_units s29.2.2.2) fun (x53 : S62) =>
    Option.bind (quox .i64 s29.2.2.1 x53.f1) fun (q63 : Int) =>
    Option.bind (bif (decide (q63 > 0)) then
      (Option.bind (strconv_FormatInt_c q63 10) fun (y77 : ByteArray) =>
        Option.bind (sadd y77 x53.f0) fun (s79 : ByteArray) =>
        Option.bind (strings_Builder_WriteString_c (⟨s29.2.1⟩ : S50) s79) fun (y81 : Int × Unit × S50) =>
        some ((IntKind.wrap .i64 (s29.2.2.1 - (IntKind.wrap .i64 (q63 * x53.f1)))), (), y81.2.2.f1))
      else
      (some (s29.2.2.1, (), s29.2.1))) fun (j65 : Int × Unit × (List Int)) =>
    some (Sum.inl ((), j65.2.2, j65.1, (IntKind.wrap .i64 (s29.2.2.2 + 1)))))
  else
  (some (Sum.inr ((), s29.2.1)))
theorem lex_SpanText_l50_ev  (s29 : Unit × (List Int) × Int × Int) : OLe (lex_SpanText_l50_c  s29) (lex_SpanText_l50  s29) := by
  unfold lex_SpanText_l50_c lex_SpanText_l50
  exact (OLe.cond (OLe.bind (OLe.refl _) (fun _ => (OLe.bind (OLe.refl _) (fun _ => (OLe.bind (OLe.cond (OLe.bind (strconv_FormatInt_ev _ _) (fun _ => (OLe.bind (OLe.refl _) (fun _ => (OLe.bind (strings_Builder_WriteString_ev _ _) (fun _ => (OLe.refl _))))))) (OLe.refl _)) (fun _ => (OLe.refl _))))))) (OLe.refl _))
noncomputable def lex_SpanText_c (a0 : Int) : Option (ByteArray × Int) :=
  bif ((decide (a0 < 0)) || (decide (a0 > 1099511627776))) then
  (some ((⟨#[]⟩ : ByteArray), 1))
  else
  (bif (a0 == 0) then
    (some ((⟨#[48, 115]⟩ : ByteArray), 0))
    else
    (Option.bind (loopF 1000000 lex_SpanText_l50_c ((), [], a0, 0)) fun (r27 : Unit × (List Int)) =>
      Option.bind (strings_Builder_String (⟨r27.2⟩ : S50)) fun (y92 : ByteArray) =>
      some (y92, 0)))
theorem lex_SpanText_ev (a0 : Int) : OLe (lex_SpanText_c a0) (lex_SpanText a0) := by
  unfold lex_SpanText_c lex_SpanText
  exact (OLe.cond (OLe.refl _) (OLe.cond (OLe.refl _) (OLe.bind (OLe.loop (fun _ => lex_SpanText_l50_ev  _)) (fun _ => (OLe.bind (OLe.refl _) (fun _ => (OLe.refl _)))))))
noncomputable def tocsinlaw13_known_c : Option Bool :=
  Option.bind (lex_Tokens_c (⟨#[97, 58, 98, 123, 120, 61, 126, 34, 99, 46, 42, 34, 125, 91, 53, 109, 93, 32, 62, 32, 49, 46, 53, 101, 51, 32, 35, 32, 101, 110, 100]⟩ : ByteArray)) fun (y1 : (List S27) × Int × Int) =>
  Option.bind (lex_Span_c (⟨#[49, 104, 51, 48, 109]⟩ : ByteArray)) fun (y10 : Int × Int) =>
  Option.bind (lex_SpanText_c 1500) fun (y12 : ByteArray × Int) =>
  Option.bind (bif (y1.2.1 == 0) then
    (bif ((y1.1.length : Int) == 12) then
      (Option.bind (ix y1.1 4) fun (x21 : S27) =>
        bif (x21.f1.toList == (⟨#[99, 46, 42]⟩ : ByteArray).toList) then
        (Option.bind (ix y1.1 7) fun (x31 : S27) =>
          bif (x31.f0 == 3) then
          (bif (y10.2 == 0) then
            (bif (y10.1 == 5400000) then
              (bif (y12.2 == 0) then
                (some (y12.1.toList == (⟨#[49, 115, 53, 48, 48, 109, 115]⟩ : ByteArray).toList))
                else
                (some false))
              else
              (some false))
            else
            (some false))
          else
          (some false))
        else
        (some false))
      else
      (some false))
    else
    (some false)) fun (j14 : Bool) =>
  some j14
theorem tocsinlaw13_known_ev  : OLe (tocsinlaw13_known_c ) (tocsinlaw13_known ) := by
  unfold tocsinlaw13_known_c tocsinlaw13_known
  exact (OLe.bind (lex_Tokens_ev _) (fun _ => (OLe.bind (lex_Span_ev _) (fun _ => (OLe.bind (lex_SpanText_ev _) (fun _ => (OLe.bind (OLe.cond (OLe.cond (OLe.bind (OLe.refl _) (fun _ => (OLe.cond (OLe.bind (OLe.refl _) (fun _ => (OLe.cond (OLe.cond (OLe.cond (OLe.cond (OLe.refl _) (OLe.refl _)) (OLe.refl _)) (OLe.refl _)) (OLe.refl _)))) (OLe.refl _)))) (OLe.refl _)) (OLe.refl _)) (fun _ => (OLe.refl _)))))))))
end Go.Proofs.YtlhpclfkoblnkaaDoor

/- Plain laws: the program's scans: durations, signs, texts in quotes, one token, blanks, tokens. -/
set_option linter.unusedVariables false
set_option maxRecDepth 100000
namespace Go.GB
open Go.Lib
/-- A search that goes up from a place on. -/
theorem up_find_from {ρ : Type} {body : Int → Option (Int ⊕ (Unit ⊕ ρ))} {n : Nat} (p : Nat → Option ρ) (h : ∀ i : Nat, i < n → body i = some (match p i with | some r => .inr (.inr r) | none => .inl ((i + 1 : Nat) : Int))) (he : body n = some (.inr (.inl ()))) :
    ∀ d i : Nat, i + d = n → loopO body i = some (match (List.range' i d).findSome? p with | some r => .inr r | none => .inl ()) := by
  intro d
  induction d with
  | zero =>
    intro i hi
    have : i = n := by omega
    subst this
    simp [loopO_done he]
  | succ d ih =>
    intro i hi
    have h1 := h i (by omega)
    rw [List.range'_succ, List.findSome?_cons]
    cases hp : p i with
    | some r => rw [hp] at h1; rw [loopO_done h1]
    | none => rw [hp] at h1; rw [loopO_step h1]; exact ih (i + 1) (by omega)
theorem findSome_if {α : Type} (c : Nat → Bool) (g : Nat → α) (l : List Nat) : l.findSome? (fun i => if c i then some (g i) else none) = (l.find? c).map g := by
  induction l with
  | nil => rfl
  | cons x l ih =>
    rw [List.findSome?_cons, List.find?_cons]
    cases hc : c x with
    | true => simp
    | false => simpa using ih
end Go.GB
namespace Go.Proofs.YtlhpclfkoblnkaaDoor
open Go.GB Go.Lib
theorem lex_units_at {i : Nat} (h : i < 7) : ∃ u : S62, lex_units[i]? = some u ∧ tl u.f0 = uName i ∧ u.f1 = (uMs i : Int) := by
  match i, h with
  | 0, _ => exact ⟨_, rfl, rfl, rfl⟩
  | 1, _ => exact ⟨_, rfl, rfl, rfl⟩
  | 2, _ => exact ⟨_, rfl, rfl, rfl⟩
  | 3, _ => exact ⟨_, rfl, rfl, rfl⟩
  | 4, _ => exact ⟨_, rfl, rfl, rfl⟩
  | 5, _ => exact ⟨_, rfl, rfl, rfl⟩
  | 6, _ => exact ⟨_, rfl, rfl, rfl⟩
theorem uMs_pos {i : Nat} (h : i < 7) : 1 ≤ uMs i ∧ uMs i ≤ 31536000000 := by
  have : ∀ j : Fin 7, 1 ≤ uMs j.val ∧ uMs j.val ≤ 31536000000 := by decide
  exact this ⟨i, h⟩
theorem times_loop {s : ByteArray} (hs : s.size < 4294967296) (hd : ∀ i, i < s.size → digN (gB (tl s) i) = true) : ∀ (d i n : Nat), i + d = s.size → n ≤ maxS + 1 →
    loopO (lex_times_l16 s) ((n : Int), (i : Int)) = some ((((tl s).drop i).foldl (fun n c => min (n * 10 + (c.toNat - 48)) (maxS + 1)) n : Nat) : Int)
  | 0, i, n, hi, hn => by
    have hl := tl_len s
    refine (loopO_done (r := (n : Int)) ?_).trans ?_
    · unfold lex_times_l16; rw [decide_eq_false (by show ¬ ((i : Int) < (s.size : Int)); omega)]; rfl
    · rw [List.drop_eq_nil_of_le (by omega)]; rfl
  | d + 1, i, n, hi, hn => by
    have hl := tl_len s
    have hdg := hd i (by omega)
    have hlt : i < (tl s).length := by omega
    have hc : 48 ≤ gB (tl s) i ∧ gB (tl s) i ≤ 57 := by unfold digN at hdg; simpa using hdg
    have hM : maxS = 1099511627776 := rfl
    have hstep : lex_times_l16 s ((n : Int), (i : Int)) = some (.inl (((min (n * 10 + (gB (tl s) i - 48)) (maxS + 1) : Nat) : Int), ((i + 1 : Nat) : Int))) := by
      unfold lex_times_l16
      rw [decide_eq_true (by show ((i : Int) < (s.size : Int)); omega), cond_true]
      show Option.bind (bx s (i : Int)) _ = _
      rw [bx_tl (by omega), Option.bind_some]
      show some (Sum.inl ((if 1099511627777 < IntKind.wrap .i64 (IntKind.wrap .i64 ((n : Int) * 10) + IntKind.wrap .i64 (IntKind.wrap .u8 (((gB (tl s) i : Nat) : Int) - 48))) then 1099511627777 else IntKind.wrap .i64 (IntKind.wrap .i64 ((n : Int) * 10) + IntKind.wrap .i64 (IntKind.wrap .u8 (((gB (tl s) i : Nat) : Int) - 48)))), IntKind.wrap .i64 ((i : Int) + 1))) = _
      rw [wrapU8 (x := ((gB (tl s) i : Nat) : Int) - 48) (by omega) (by omega), wrapN (z := ((gB (tl s) i : Nat) : Int) - 48) (n := gB (tl s) i - 48) (by omega) (by omega), wrapN (z := (n : Int) * 10) (n := n * 10) (by omega) (by omega), wrapN (z := ((n * 10 : Nat) : Int) + ((gB (tl s) i - 48 : Nat) : Int)) (n := n * 10 + (gB (tl s) i - 48)) (by omega) (by omega), wrapN (n := i + 1) (by omega) (by omega)]
      congr 3
      split <;> omega
    rw [loopO_step hstep, times_loop hs hd d (i + 1) _ (by omega) (by omega), List.drop_eq_getElem_cons hlt, List.foldl_cons]
    simp [gB, List.getD, List.getElem?_eq_getElem hlt]
theorem foldl_le : ∀ (l : List UInt8) (n : Nat), n ≤ maxS + 1 → l.foldl (fun n c => min (n * 10 + (c.toNat - 48)) (maxS + 1)) n ≤ maxS + 1
  | [], n, h => h
  | c :: l, n, h => foldl_le l _ (Nat.min_le_right _ _)
theorem lex_times_eq {s : ByteArray} {i : Nat} (hs : s.size < 4294967296) (hd : ∀ i, i < s.size → digN (gB (tl s) i) = true) (h7 : i < 7) : lex_times s (uMs i : Int) = some ((timesL (tl s) (uMs i) : Nat) : Int) := by
  have hu := uMs_pos h7
  have hM : maxS = 1099511627776 := rfl
  unfold lex_times timesL
  have h := times_loop hs hd s.size 0 0 (by omega) (by omega)
  rw [List.drop_zero] at h
  refine bind_of h ?_
  have hle := foldl_le (tl s) 0 (by omega)
  generalize (tl s).foldl (fun n c => min (n * 10 + (c.toNat - 48)) (maxS + 1)) 0 = n at *
  have hq : quox .i64 1099511627776 (uMs i : Int) = some ((maxS / uMs i : Nat) : Int) := by
    unfold quox
    rw [if_pos (by omega), show (1099511627776 : Int) = ((maxS : Nat) : Int) from rfl]
    congr 1
    have : Int.tdiv ((maxS : Nat) : Int) (uMs i : Int) = ((maxS / uMs i : Nat) : Int) := by rw [Int.ofNat_tdiv]
    rw [this, wrapN (n := maxS / uMs i) rfl (by have := Nat.div_le_self maxS (uMs i); omega)]
  refine bind_of hq ?_
  have hdl := Nat.div_le_self maxS (uMs i)
  rw [wrapN (n := maxS / uMs i + 1) (by omega) (by omega)]
  by_cases hg : n > maxS / uMs i + 1
  · rw [decide_eq_true (by omega), cond_true, if_pos hg]; rfl
  · rw [decide_eq_false (by omega), cond_false, if_neg hg]
    have hmul : n * uMs i ≤ maxS + 1 * uMs i := by
      have h1 : n * uMs i ≤ (maxS / uMs i + 1) * uMs i := Nat.mul_le_mul_right _ (by omega)
      have h2 := Nat.div_mul_le_self maxS (uMs i)
      rw [Nat.add_mul] at h1; omega
    rw [wrapN (n := n * uMs i) (by rw [Int.natCast_mul]) (by omega)]
    congr 1
    split <;> omega
theorem timesL_le (d : List UInt8) (ms : Nat) : timesL d ms ≤ maxS + 1 := by
  unfold timesL; simp only; split
  · omega
  · exact Nat.min_le_right _ _
theorem unit_loop {s : ByteArray} (hs : s.size < 4294967296) {a first sum n k : Nat} (ha : a + n + k ≤ s.size) (hk : k = runL lowN ((tl s).drop (a + n))) (hn : ∀ i, i < n → digN (gB ((tl s).drop a) i) = true) (hsum : sum ≤ maxS + 1) :
    loopO (lex_span_l46 s ((a : Int), (first : Int), (sum : Int)) (n : Int) (k : Int)) 0 = some (match unitL ((tl s).drop (a + n)) first with
      | some i => .inr (.inl (((a + n + k : Nat) : Int), ((i + 1 : Nat) : Int), ((min (sum + timesL (((tl s).drop a).take n) (uMs i)) (maxS + 1) : Nat) : Int)))
      | none => .inl ()) := by
  have hl := tl_len s
  have hM : maxS = 1099511627776 := rfl
  have h := up_find_from (n := 7) (body := lex_span_l46 s ((a : Int), (first : Int), (sum : Int)) (n : Int) (k : Int))
    (fun i => if (decide (first ≤ i) && (((tl s).drop (a + n)).take (runL lowN ((tl s).drop (a + n))) == uName i)) then some (Sum.inl (((a + n + k : Nat) : Int), ((i + 1 : Nat) : Int), ((min (sum + timesL (((tl s).drop a).take n) (uMs i)) (maxS + 1) : Nat) : Int))) else none)
    (fun i hi => by
      obtain ⟨u, hu, hu1, hu2⟩ := lex_units_at hi
      unfold lex_span_l46
      rw [show ((lex_units.length : Nat) : Int) = 7 from rfl, decide_eq_true (by omega), cond_true]
      refine bind_of (a := u) (by rw [ix_nat]; exact hu) ?_
      refine bind_of (a := (decide (first ≤ i) && (((tl s).drop (a + n)).take (runL lowN ((tl s).drop (a + n))) == uName i))) ?_ ?_
      · show (bif decide ((i : Int) ≥ (first : Int)) then _ else _) = _
        by_cases hf : first ≤ i
        · rw [decide_eq_true (show (i : Int) ≥ (first : Int) by omega), cond_true, decide_eq_true hf, Bool.true_and]
          show Option.bind (sx s (IntKind.wrap .i64 ((a : Int) + (n : Int))) (IntKind.wrap .i64 ((a : Int) + IntKind.wrap .i64 ((n : Int) + (k : Int))))) _ = _
          rw [wrapN (n := a + n) (by omega) (by omega), wrapN (z := (n : Int) + (k : Int)) (n := n + k) (by omega) (by omega), wrapN (n := a + n + k) (by omega) (by omega), sx_tl (by omega) (by omega), Option.bind_some, tl_inj, tl_extract, hu1, show a + n + k - (a + n) = k from by omega, ← hk]
        · rw [decide_eq_false (show ¬ ((i : Int) ≥ (first : Int)) by omega), cond_false, decide_eq_false hf, Bool.false_and]
      · by_cases hc : (decide (first ≤ i) && (((tl s).drop (a + n)).take (runL lowN ((tl s).drop (a + n))) == uName i)) = true
        · rw [hc, cond_true, if_pos rfl]
          show Option.bind (sx s (a : Int) (IntKind.wrap .i64 ((a : Int) + (n : Int)))) _ = _
          rw [wrapN (n := a + n) (by omega) (by omega), sx_tl (by omega) (by omega), Option.bind_some]
          have ht : tl (s.extract a (a + n)) = ((tl s).drop a).take n := by rw [tl_extract, show a + n - a = n from by omega]
          have hsz : (s.extract a (a + n)).size = n := by rw [← tl_len, ht, List.length_take, List.length_drop]; omega
          have e := lex_times_eq (s := s.extract a (a + n)) (i := i) (by omega) (fun j hj => by
            rw [hsz] at hj
            rw [ht]
            have := hn j hj
            unfold gB at this ⊢
            rwa [List.getD_eq_getElem?_getD, List.getElem?_take, if_pos hj, ← List.getD_eq_getElem?_getD]) hi
          rw [← hu2] at e
          rw [e, Option.bind_some, ht]
          have ht2 := timesL_le (((tl s).drop a).take n) (uMs i)
          show some (Sum.inr (Sum.inr (Sum.inl (IntKind.wrap .i64 ((a : Int) + IntKind.wrap .i64 ((n : Int) + (k : Int))), IntKind.wrap .i64 ((i : Int) + 1), (if 1099511627777 < IntKind.wrap .i64 ((sum : Int) + ((timesL (((tl s).drop a).take n) (uMs i) : Nat) : Int)) then 1099511627777 else IntKind.wrap .i64 ((sum : Int) + ((timesL (((tl s).drop a).take n) (uMs i) : Nat) : Int))))))) = _
          rw [wrapN (z := (n : Int) + (k : Int)) (n := n + k) (by omega) (by omega), wrapN (n := a + n + k) (by omega) (by omega), wrapN (n := i + 1) (by omega) (by omega), wrapN (n := sum + timesL (((tl s).drop a).take n) (uMs i)) (by omega) (by omega)]
          simp only [Option.some.injEq, Sum.inr.injEq, Sum.inl.injEq, Prod.mk.injEq, true_and]
          split <;> omega
        · rw [Bool.not_eq_true] at hc
          rw [hc, cond_false, if_neg (by simp), wrapN (n := i + 1) (by omega) (by omega)])
    (by
      unfold lex_span_l46
      rw [show ((lex_units.length : Nat) : Int) = 7 from rfl]; rfl) 7 0 rfl
  rw [show ((0 : Nat) : Int) = 0 from rfl] at h
  rw [h, findSome_if, ← List.range_eq_range']
  obtain ⟨o, ho⟩ : ∃ o, unitL ((tl s).drop (a + n)) first = o := ⟨_, rfl⟩
  rw [ho]
  unfold unitL at ho
  rw [ho]
  cases o <;> rfl
theorem span_loop {s : ByteArray} (hs : s.size < 4294967296) : ∀ (f a first sum : Nat), a ≤ s.size → first ≤ 7 → 8 ≤ first + f → sum ≤ maxS + 1 →
    loopO (lex_span_l16 s) ((a : Int), (first : Int), (sum : Int)) = some (((a + (spanGo f ((tl s).drop a) first sum).1 : Nat) : Int), (((spanGo f ((tl s).drop a) first sum).2 : Nat) : Int))
  | 0, a, first, sum, _, h1, h2, _ => by omega
  | f + 1, a, first, sum, ha, h1, h2, hsum => by
    have hl := tl_len s
    have hdl := runL_le digN ((tl s).drop a)
    rw [List.length_drop] at hdl
    unfold spanGo
    generalize hD : runL digN ((tl s).drop a) = D at *
    by_cases hd : D = 0
    · rw [if_pos hd]
      refine loopO_done (r := (((a + 0 : Nat) : Int), (sum : Int))) ?_
      unfold lex_span_l16
      refine bind_of (num_dig hs ha) ?_
      rw [hD, hd]; rfl
    rw [if_neg hd, List.drop_drop]
    have hkl := runL_le lowN ((tl s).drop (a + D))
    rw [List.length_drop] at hkl
    have hlp := unit_loop hs (a := a) (first := first) (sum := sum) (n := D) (k := runL lowN ((tl s).drop (a + D))) (by omega) rfl (fun i hi => (runL_in (by rw [hD]; exact hi)).2) hsum
    have hbody : lex_span_l16 s ((a : Int), (first : Int), (sum : Int)) = match unitL ((tl s).drop (a + D)) first with
        | some i => some (.inl (((a + D + runL lowN ((tl s).drop (a + D)) : Nat) : Int), ((i + 1 : Nat) : Int), ((min (sum + timesL (((tl s).drop a).take D) (uMs i)) (maxS + 1) : Nat) : Int)))
        | none => some (.inr ((a : Int), (sum : Int))) := by
      unfold lex_span_l16
      refine bind_of (num_dig hs ha) ?_
      rw [hD, show (((D : Nat) : Int) == 0) = false from by rw [beq_eq_false_iff_ne]; omega, cond_false]
      show Option.bind (lex_run s (IntKind.wrap .i64 ((a : Int) + (D : Int))) _) _ = _
      rw [wrapN (n := a + D) (by omega) (by omega)]
      refine bind_of (lex_run_eq lowN hs (by omega) (fun c hc => by rw [low_eq hc]) rfl) ?_
      refine bind_of hlp ?_
      cases unitL ((tl s).drop (a + D)) first <;> rfl
    cases hu : unitL ((tl s).drop (a + D)) first with
    | none =>
      rw [hu] at hbody
      rw [loopO_done hbody]; rfl
    | some i =>
      rw [hu] at hbody
      have hi := unitL_some hu
      have hr := unitL_run hu
      simp only
      rw [loopO_step hbody, hr, List.drop_drop, span_loop hs f _ _ _ (by omega) (by omega) (by omega) (Nat.min_le_right _ _)]
      simp only [Nat.add_assoc]
theorem lex_span_eq {s : ByteArray} (hs : s.size < 4294967296) : lex_span s = some (((spanL (tl s) : Nat) : Int), (((spanGo 8 (tl s) 0 0).2 : Nat) : Int)) := by
  unfold lex_span
  have h := span_loop hs 8 0 0 0 (Nat.zero_le _) (by omega) (by omega) (Nat.zero_le _)
  rw [List.drop_zero] at h
  refine bind_of h ?_
  rw [Nat.zero_add]; rfl
theorem lex_signs_at {i : Nat} (h : i < 22) : ∃ u : ByteArray, lex_signs[i]? = some u ∧ tl u = signsL.getD i [] := by
  have : ∀ j : Fin 22, (lex_signs[j.val]?).map tl = some (signsL.getD j.val []) := by unfold lex_signs; decide +kernel
  obtain ⟨u, h1, h2⟩ := Option.map_eq_some_iff.1 (this ⟨i, h⟩)
  exact ⟨u, h1, h2⟩
theorem find_getD {α : Type} (d : α) (c : α → Bool) (l : List α) : ((List.range l.length).find? fun i => c (l.getD i d)).map (fun i => l.getD i d) = l.find? c := by
  induction l with
  | nil => rfl
  | cons x l ih =>
    rw [List.length_cons, List.range_succ_eq_map, List.find?_cons, List.find?_cons]
    cases hc : c ((x :: l).getD 0 d) with
    | true => rw [show c x = true from hc]; rfl
    | false =>
      rw [show c x = false from hc]
      simp only [List.find?_map]
      show Option.map _ (Option.map Nat.succ (List.find? (fun i => c (l.getD i d)) (List.range l.length))) = _
      rw [Option.map_map]
      exact ih
theorem lex_one_signs {s : ByteArray} : loopO (lex_one_l89 s) 0 = some (match signL (tl s) with
    | some x => .inr (⟨5, ⟨x.toArray⟩, 0⟩, (x.length : Int))
    | none => .inl ()) := by
  have h := up_find_from (n := 22) (body := lex_one_l89 s)
    (fun i => if (signsL.getD i []).isPrefixOf (tl s) then some ((⟨5, ⟨(signsL.getD i []).toArray⟩, 0⟩, ((signsL.getD i []).length : Int)) : S27 × Int) else none)
    (fun i hi => by
      obtain ⟨u, hu, hu1⟩ := lex_signs_at hi
      unfold lex_one_l89
      rw [show ((lex_signs.length : Nat) : Int) = 22 from rfl, decide_eq_true (by omega), cond_true]
      refine bind_of (a := u) (by rw [ix_nat]; exact hu) ?_
      refine bind_of pref_eq ?_
      rw [hu1]
      cases (signsL.getD i []).isPrefixOf (tl s) with
      | true =>
        rw [cond_true, if_pos rfl, ← hu1]
        rw [show u.size = (tl u).length from (tl_len u).symm]
      | false => rw [cond_false, if_neg (by simp), wrapN (n := i + 1) (by omega) (by omega)])
    (by
      unfold lex_one_l89
      rw [show ((lex_signs.length : Nat) : Int) = 22 from rfl]; rfl) 22 0 rfl
  rw [show ((0 : Nat) : Int) = 0 from rfl] at h
  rw [h, findSome_if, ← List.range_eq_range']
  have := find_getD [] (fun x => x.isPrefixOf (tl s)) signsL
  rw [show signsL.length = 22 from rfl] at this
  unfold signL
  rw [← this]
  generalize (List.range 22).find? (fun i => (signsL.getD i []).isPrefixOf (tl s)) = o
  cases o <;> rfl
/-! ### texts in quotes -/
theorem puint_all : ∀ (a b : Fin 103), hexN a.val = true → hexN b.val = true → strconv_ParseUint_c ⟨#[UInt8.ofNat a.val, UInt8.ofNat b.val]⟩ 16 8 = some (((16 * hexV a.val + hexV b.val : Nat) : Int), ()) := by decide +kernel
theorem hexN_lt {c : Nat} (h : hexN c = true) : c < 103 := by unfold hexN digN at h; simp at h; omega
theorem puint_eq {s : ByteArray} (hs : s.size = 2) (h0 : hexN (gB (tl s) 0) = true) (h1 : hexN (gB (tl s) 1) = true) : strconv_ParseUint s 16 8 = some (((16 * hexV (gB (tl s) 0) + hexV (gB (tl s) 1) : Nat) : Int), ()) := by
  have h := puint_all ⟨_, hexN_lt h0⟩ ⟨_, hexN_lt h1⟩ h0 h1
  have e : s = ⟨#[UInt8.ofNat (gB (tl s) 0), UInt8.ofNat (gB (tl s) 1)]⟩ := by
    apply ba_eq
    have hl := tl_len s
    rw [hs] at hl
    show tl s = _
    rcases hxy : tl s with _ | ⟨x, _ | ⟨y, _ | ⟨z, t⟩⟩⟩
    · rw [hxy] at hl; simp at hl
    · rw [hxy] at hl; simp at hl
    · simp [gB, UInt8.ofNat_toNat]
    · rw [hxy] at hl; simp at hl
  have h2 := strconv_ParseUint_ev ⟨#[UInt8.ofNat (gB (tl s) 0), UInt8.ofNat (gB (tl s) 1)]⟩ 16 8 _ h
  rw [← e] at h2
  exact h2
theorem hexV_lt {c : Nat} (h : hexN c = true) : hexV c < 16 := by
  unfold hexN digN at h; unfold hexV; simp at h
  split <;> (try split) <;> omega
theorem hexV_low {c : Nat} (h : hexN c = true) : hexV c < 8 ↔ c ≤ 55 := by
  unfold hexN digN at h; unfold hexV; simp at h
  split <;> (try split) <;> omega
theorem lex_escape_eq {s : ByteArray} (hs : s.size < 4294967296) : lex_escape s = some (match escL (tl s) with | some (x, k) => ((x.toNat : Int), (k : Int)) | none => (0, 0)) := by
  have hl := tl_len s
  unfold lex_escape
  rw [nil_size]
  by_cases h0 : s.size = 0
  · rw [decide_eq_true h0, cond_true]
    have : escL (tl s) = none := by
      have hg : ∀ i, gB (tl s) i = 0 := fun i => gB_out (by omega)
      unfold escL; simp [hg]
    rw [this]
  rw [decide_eq_false h0, cond_false]
  refine bind_of (show bx s 0 = some ((gB (tl s) 0 : Nat) : Int) from bx_tl (i := 0) (by omega)) ?_
  generalize hc : gB (tl s) 0 = c
  unfold escL
  rw [hc]
  have e : ∀ k : Nat, (((c : Nat) : Int) == (k : Int)) = decide (c = k) := fun k => by rw [Bool.eq_iff_iff, beq_iff_eq, decide_eq_true_eq]; omega
  rw [show (((c : Nat) : Int) == 110) = decide (c = 110) from e 110, show (((c : Nat) : Int) == 92) = decide (c = 92) from e 92, show (((c : Nat) : Int) == 34) = decide (c = 34) from e 34, show (((c : Nat) : Int) == 39) = decide (c = 39) from e 39,
    show (((c : Nat) : Int) == 116) = decide (c = 116) from e 116, show (((c : Nat) : Int) == 114) = decide (c = 114) from e 114, show (((c : Nat) : Int) == 120) = decide (c = 120) from e 120]
  by_cases c1 : c = 110
  · subst c1; rfl
  by_cases c2 : c = 92 ∨ c = 34 ∨ c = 39
  · rw [if_neg c1, if_pos c2]
    have hx : (((((tl s).getD 0 0).toNat : Nat) : Int)) = (c : Int) := by rw [show ((tl s).getD 0 0).toNat = c from hc]
    show _ = some (((((tl s).getD 0 0).toNat : Nat) : Int), ((1 : Nat) : Int))
    rw [hx]
    rcases c2 with rfl | rfl | rfl <;> rfl
  rw [not_or, not_or] at c2
  obtain ⟨c3, c4, c5⟩ := c2
  by_cases c6 : c = 116
  · subst c6; rfl
  by_cases c7 : c = 114
  · subst c7; rfl
  rw [if_neg c1, if_neg (by omega), if_neg c6, if_neg c7]
  simp only [c1, c3, c4, c5, c6, c7, decide_false, cond_false, Option.bind_some]
  by_cases c8 : c = 120
  · simp only [c8, decide_true, cond_true, true_and]
    by_cases hH : hexN (gB (tl s) 1) = true ∧ hexN (gB (tl s) 2) = true
    · have h2 : 2 < s.size := by
        have : 0 < gB (tl s) 2 := by
          have := hH.2; unfold hexN digN at this; simp at this; omega
        have := gB_in this; omega
      rw [decide_eq_true (by omega), cond_true, show bx s 1 = some ((gB (tl s) 1 : Nat) : Int) from bx_tl (i := 1) (by omega), show bx s 2 = some ((gB (tl s) 2 : Nat) : Int) from bx_tl (i := 2) (by omega)]
      simp only [Option.bind_some, hex_eq (gB_lt _ _), hH.1, hH.2, cond_true]
      rw [show sx s 1 3 = some (s.extract 1 3) from sx_tl (a := 1) (b := 3) (by omega) (by omega)]
      have ht : tl (s.extract 1 3) = ((tl s).drop 1).take 2 := tl_extract s 1 3
      have hg0 : gB (tl (s.extract 1 3)) 0 = gB (tl s) 1 := by
        rw [ht]; unfold gB; rw [List.getD_eq_getElem?_getD, List.getElem?_take, if_pos (by omega), List.getElem?_drop, ← List.getD_eq_getElem?_getD]
      have hg1 : gB (tl (s.extract 1 3)) 1 = gB (tl s) 2 := by
        rw [ht]; unfold gB; rw [List.getD_eq_getElem?_getD, List.getElem?_take, if_pos (by omega), List.getElem?_drop, ← List.getD_eq_getElem?_getD]
      have hp := puint_eq (s := s.extract 1 3) (by rw [← tl_len, ht, List.length_take, List.length_drop]; omega) (by rw [hg0]; exact hH.1) (by rw [hg1]; exact hH.2)
      rw [hg0, hg1] at hp
      rw [Option.bind_some, hp, Option.bind_some]
      have v1 := hexV_lt hH.1
      have v2 := hexV_lt hH.2
      have v3 := hexV_low hH.1
      by_cases h7 : gB (tl s) 1 ≤ 55
      · have := v3.2 h7
        rw [if_pos ⟨trivial, trivial, h7⟩]
        simp only
        rw [decide_eq_true (by omega), cond_true, wrapU8 (by omega) (by omega)]
        simp only [Option.bind_some]
        rw [UInt8.toNat_ofNat', Nat.mod_eq_of_lt (by omega)]
        rfl
      · have : ¬ hexV (gB (tl s) 1) < 8 := fun h => h7 (v3.1 h)
        rw [if_neg (fun h => h7 h.2.2)]
        simp only
        rw [decide_eq_false (by omega), cond_false]
        rfl
    · rw [if_neg (fun h => hH ⟨h.1, h.2.1⟩)]
      have : (bif decide ((s.size : Int) > 2) then Option.bind (bx s 1) fun c39 => bif lex_hex c39 then Option.bind (bx s 2) fun c42 => some (lex_hex c42) else some false else some false) = some false := by
        by_cases h2 : 2 < s.size
        · rw [decide_eq_true (by omega), cond_true, show bx s 1 = some ((gB (tl s) 1 : Nat) : Int) from bx_tl (i := 1) (by omega), show bx s 2 = some ((gB (tl s) 2 : Nat) : Int) from bx_tl (i := 2) (by omega)]
          simp only [Option.bind_some, hex_eq (gB_lt _ _)]
          cases ha : hexN (gB (tl s) 1) with
          | false => rfl
          | true =>
            rw [cond_true]
            cases hb : hexN (gB (tl s) 2) with
            | false => rfl
            | true => exact absurd ⟨ha, hb⟩ hH
        · rw [decide_eq_false (by omega), cond_false]
      rw [this]; rfl
  · simp only [c8, decide_false, cond_false, Option.bind_some, false_and, if_false]
end Go.Proofs.YtlhpclfkoblnkaaDoor

set_option linter.unusedVariables false
namespace Go.GB
theorem shr_nat (k : IntKind) (a n : Nat) (hn : n ≤ k.bits) : shr k (a : Int) (n : Int) = ((a / 2 ^ n : Nat) : Int) := by
  unfold shr
  rw [Int.toNat_natCast, Nat.min_eq_left hn, Int.fdiv_eq_ediv_of_nonneg _ (by exact Int.pow_nonneg (by omega))]
  norm_cast
theorem app_eq {α : Type} {xs ys : List α} (h : xs.length + ys.length ≤ 2147483648) : app xs ys = some (xs ++ ys) := by unfold app maxLen'; rw [if_pos (by simpa using h)]
theorem sb_eq {s : ByteArray} (h : s.size ≤ 2147483648) : sb s = some (bytesOf s) := by unfold sb maxLen'; rw [if_pos h]
theorem ofBytes_toList (l : List Int) : (ofBytes l).data.toList = l.map (fun n => UInt8.ofNat n.toNat) := by
  unfold ofBytes
  have key : ∀ (l : List Int) (r : ByteArray), (l.foldl (fun r n => r.push (UInt8.ofNat n.toNat)) r).data.toList = r.data.toList ++ l.map (fun n => UInt8.ofNat n.toNat) := by
    intro l
    induction l with
    | nil => intro r; simp
    | cons x l ih => intro r; rw [List.foldl_cons, ih]; simp [ByteArray.push]
  rw [key]; simp
end Go.GB
