/- From data that are read to what the walks ask: rows. -/
import Derived.Test.YtjkkmbjkndageaaDoorGB20
import Derived.Test.YtjkkmbjkndageaaDoorRows
import Derived.Deep.Slices
import Derived.Below
set_option linter.unusedVariables false
set_option linter.unusedSimpArgs false
namespace Go.GB
open Go Go.RowKit
open Go.Proofs.YtjkkmbjkndageaaDoor.Rows (uptoBulk uptoBulkAll)

def immOf (W : World) : Imm := ⟨fun b => W.heap[b]?, W.os, W.tape, W.output, 0⟩
theorem holds_immOf (W : World) : Holds (immOf W) [] W := ⟨fun _ _ h => h, by simp, by simp, by simp, rfl, rfl, rfl, Nat.zero_le _⟩
theorem below_of {I' : Imm} {L' : Own} {W W' : World} (h : Holds I' L' W') (hI : immOf W ≤ I') : Below W.heap.size W W' := by
  refine ⟨by rw [h.os, hI.os]; rfl, by rw [h.tape, hI.tape]; rfl, by rw [h.out, hI.out]; rfl, ?_, fun k hk => ?_⟩
  · rcases Nat.eq_zero_or_pos W.heap.size with h0 | h0
    · omega
    · have : W.heap[W.heap.size - 1]? = some (W.heap[W.heap.size - 1]'(by omega)) := Array.getElem?_eq_getElem _
      have := lt_of_heap (h.imm _ _ (hI.h _ _ this))
      omega
  · have : W.heap[k]? = some (W.heap[k]) := Array.getElem?_eq_getElem hk
    rw [this]; exact h.imm _ _ (hI.h _ _ this)
theorem imm_cell {W : World} {a : Addr} {v : Value} (h : W.cell? a = some v) : (immOf W).cell a = some v := h
theorem run_of_cells {W : World} {a : Addr} {n : Nat} {cs : List Value} (h : W.cells? 0 a n = some cs) : RunAt (immOf W) a cs := fun j v hj => by
  unfold World.cells? at h
  rw [if_pos (Nat.zero_le _)] at h
  have hl := mapM_some_length h
  have hj' : j < n := by have := (List.getElem?_eq_some_iff.1 hj).1; simpa [hl] using this
  have := mapM_some_get h j j (by simp [hj'])
  exact imm_cell (this.trans hj)

def Reads {α : Type} (P : Program) (T : TypeId) (d : Kd α) (w : α → Nat → Prop) : Prop := ∀ {H : Type} {enc : TypeId × Value → H} {W : World} {spare : Nat → Bool} {held : Bool} {fuel : Nat} {cs : List Value} {x : DataW H × List MemPlace},
  DataW.trod enc P W 0 spare held fuel T cs = some x → uptoBulk x.1 ≤ 1048576 → ∃ y, d.R (immOf W) y cs ∧ w y (uptoBulk x.1)
theorem reads_int {P : Program} {T : TypeId} {k : IntKind} (h : P.underlying T = some (.int k)) : Reads P T (Kd.int k) (wInt k) := fun ht _ => by
  obtain ⟨n, rfl, _, hw⟩ := DataW.trod_int h ht
  simp only [Lit.wf, Bool.and_eq_true, decide_eq_true_eq] at hw
  exact ⟨n, rfl, hw⟩
theorem reads_bool {P : Program} {T : TypeId} (h : P.underlying T = some .bool) : Reads P T Kd.bool wBool := fun ht _ => by
  obtain ⟨n, rfl, _⟩ := DataW.trod_bool h ht
  exact ⟨n, rfl, trivial⟩
theorem reads_str {P : Program} {T : TypeId} (h : P.underlying T = some .string) : Reads P T Kd.str wStr := fun ht _ => by
  obtain ⟨n, rfl, rfl, _⟩ := DataW.trod_string h ht
  exact ⟨n, rfl, by simp [uptoBulk, wStr]⟩
theorem bulk_pos {H : Type} (d : DataW H) : 1 ≤ uptoBulk d := by
  cases d with
  | lit l => cases l <;> simp [uptoBulk]
  | _ => simp [uptoBulk]
theorem bulkAll_ge {H : Type} : ∀ (l : List (DataW H)), l.length ≤ uptoBulkAll l
  | [] => by simp
  | d :: r => by have := bulk_pos d; have := bulkAll_ge r; simp only [uptoBulkAll, List.length_cons]; omega
theorem bulkAll_mem {H : Type} {d : DataW H} : ∀ {l : List (DataW H)}, d ∈ l → uptoBulk d ≤ uptoBulkAll l
  | [], h => by cases h
  | e :: r, h => by
    simp only [uptoBulkAll]
    rcases List.mem_cons.1 h with rfl | h
    · omega
    · have := bulkAll_mem h; omega
theorem choose_list {α : Type} {p : Nat → α → Prop} : ∀ (n : Nat), (∀ i, i < n → ∃ y, p i y) → ∃ xs : List α, xs.length = n ∧ ∀ i x, xs[i]? = some x → p i x
  | 0, _ => ⟨[], rfl, fun i x h => by simp at h⟩
  | m + 1, key => by
    obtain ⟨xs, hxl, hx⟩ := choose_list m (fun i hi => key i (by omega))
    obtain ⟨y, hy⟩ := key m (by omega)
    refine ⟨xs ++ [y], by simp [hxl], fun i x h => ?_⟩
    rcases Nat.lt_or_ge i m with hi | hi
    · rw [List.getElem?_append_left (by omega)] at h; exact hx i x h
    · rw [List.getElem?_append_right (by omega), hxl] at h
      have hi0 : i - m = 0 := by have := (List.getElem?_eq_some_iff.1 h).1; simpa using this
      rw [hi0] at h
      simp only [List.getElem?_cons_zero, Option.some.injEq] at h
      subst h
      rw [show i = m from by omega]
      exact hy
theorem wSl_of {α H : Type} {w : α → Nat → Prop} : ∀ (xs : List α) (es : List (DataW H)), xs.length = es.length → (∀ (i : Nat) (x : α) (e : DataW H), xs[i]? = some x → es[i]? = some e → w x (uptoBulk e)) → wSl w xs (uptoBulkAll es)
  | [], _, _, _ => trivial
  | x :: r, [], h, _ => by simp at h
  | x :: r, e :: es, h, hw => ⟨uptoBulk e, uptoBulkAll es, hw 0 x e rfl rfl, wSl_of r es (by simpa using h) (fun i x' e' h1 h2 => hw (i + 1) x' e' (by simpa using h1) (by simpa using h2)), by simp [uptoBulkAll], bulk_pos e⟩
theorem reads_slice {α : Type} {P : Program} {T e : TypeId} {d : Kd α} {w : α → Nat → Prop} (hu : P.underlying T = some (.slice e)) (hn : P.cellsOf e = d.n) (hr : Reads P e d w) : Reads P T (Kd.sl d) (wSl w) := by
  intro H enc W spare held fuel cs x ht hb
  rcases DataW.trod_slice hu ht with ⟨rfl, rfl⟩ | ⟨a, len, cap, elems, rest, n, rfl, rfl, rfl, _, hlc, hcm, hel, hat, _, _⟩
  · exact ⟨[], ⟨none, 0, rfl, RepS.nil _ _⟩, trivial⟩
  · simp only [uptoBulk] at hb
    have hlen := bulkAll_ge (elems.map (·.1))
    rw [List.length_map, hel] at hlen
    have key : ∀ i, i < len → ∃ y, (∃ cs', d.R (immOf W) y cs' ∧ RunAt (immOf W) (a.add (i * d.n)) cs') ∧ ∀ e, (elems.map (·.1))[i]? = some e → w y (uptoBulk e) := fun i hi => by
      have h1 := hat i hi
      have hie : i < elems.length := by omega
      rw [List.getElem?_eq_getElem hie] at h1
      simp only [Option.bind_eq_some_iff] at h1
      obtain ⟨cs', h2, h3⟩ := h1
      obtain ⟨y, hy, hw⟩ := hr h3 (by
        have := bulkAll_mem (l := elems.map (·.1)) (List.mem_map_of_mem (List.getElem_mem hie))
        omega)
      refine ⟨y, ⟨cs', hy, ?_⟩, fun e he => ?_⟩
      · rw [← hn]
        exact run_of_cells h2
      · rw [List.getElem?_map, List.getElem?_eq_getElem hie] at he
        cases he; exact hw
    have hex := choose_list (p := fun i y => (∃ cs', d.R (immOf W) y cs' ∧ RunAt (immOf W) (a.add (i * d.n)) cs') ∧ ∀ e, (elems.map (·.1))[i]? = some e → w y (uptoBulk e)) len key
    obtain ⟨xs, hxl, hx⟩ := hex
    refine ⟨xs, ⟨some a, cap, by rw [hxl], by omega, by unfold maxLen'; omega, fun i x h => ?_⟩, ?_⟩
    · obtain ⟨⟨cs', h1, h2⟩, _⟩ := hx i x h
      exact ⟨a, cs', rfl, h1, h2⟩
    · exact (wSl_of xs (elems.map (·.1)) (by simp [hxl, hel]) (fun i x e h1 h2 => (hx i x h1).2 e h2)).le (by simp only [uptoBulk]; omega)
theorem pairR {α β : Type} {a : Kd α} {b : Kd β} {I : Imm} {x : α} {y : β} {cs : List Value} {o n m : Nat} (h0 : a.R I x ((cs.drop o).take n)) (h1 : b.R I y (cs.drop m)) (hm : m = o + n) : (Kd.pair a b).R I (x, y) (cs.drop o) := by
  subst hm
  exact ⟨(cs.drop o).take n, (cs.drop o).drop n, (List.take_append_drop _ _).symm, h0, by rw [List.drop_drop]; exact h1⟩
theorem lastR {α : Type} {a : Kd α} {I : Imm} {x : α} {cs : List Value} {o n : Nat} (h : a.R I x ((cs.drop o).take n)) (hl : cs.length = o + n) : a.R I x (cs.drop o) := by
  rwa [List.take_of_length_le (by rw [List.length_drop]; omega)] at h
def fieldD (P : Program) (T : TypeId) (i : Nat) : Field := (P.fieldsOf T).getD i default
/-- A field of a struct that is read. -/
theorem field_read {α : Type} {H : Type} {enc : TypeId × Value → H} {P : Program} {W : World} {spare : Nat → Bool} {held : Bool} {m : Nat} {T t : TypeId} {d : Kd α} {w : α → Nat → Prop} {cs : List Value} {xs : List (DataW H × List MemPlace)} {x : DataW H × List MemPlace} {i o n : Nat}
    (hf : ∀ (i : Nat) (f : Field), (P.fieldsOf T)[i]? = some f → DataW.trod enc P W 0 spare held m f.type ((cs.drop f.offset).take (P.cellsOf f.type)) = xs[i]?)
    (hx : xs[i]? = some x) (h1 : (P.fieldsOf T)[i]? = some (fieldD P T i)) (h2 : (fieldD P T i).type = t) (h3 : (fieldD P T i).offset = o) (h4 : P.cellsOf t = n) (hr : Reads P t d w) (hb : uptoBulk x.1 ≤ 1048576) : ∃ y, d.R (immOf W) y ((cs.drop o).take n) ∧ w y (uptoBulk x.1) := by
  have := hf i _ h1
  rw [hx, h2, h3, h4] at this
  exact hr this hb
theorem calls_of {P : Program} {f : FuncId} {args : Array Value} {W : World} {b : Value} (h : CallsTo P f args (immOf W) [] (fun v I' L' => v = b ∧ [] = L')) : Calls P f args W fun e W' => e = .returned b ∧ Below W.heap.size W W' :=
  (h W (holds_immOf W)).mono fun e W' ⟨v, I', L', he, hI, hh, hv, _⟩ => ⟨by rw [he, hv], below_of hh hI⟩
end Go.GB
