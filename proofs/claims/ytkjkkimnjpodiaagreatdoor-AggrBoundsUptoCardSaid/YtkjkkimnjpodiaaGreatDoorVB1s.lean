/- AggrBounds: nothing lies beyond the least and the greatest; whole numbers and equal numbers are summed and shared out exactly. -/
import Derived.Test.YtkjkkimnjpodiaaGreatDoorGB33s
import Derived.Test.YtkjkkimnjpodiaaGreatDoorRows
import Derived.Deep.Slices
import Derived.Below
import Derived.Lib.Bytealg
import Derived.Test.YtkjkkimnjpodiaaGreatDoorW2s
import Derived.KernelRfl
import Derived.Lib.LaidU8T
import Derived.Shelf.Unicode.ValidAny
/- From data that are read to what the walks ask: rows. -/
set_option linter.unusedVariables false
set_option linter.unusedSimpArgs false
namespace Go.GB
open Go Go.RowKit
open Go.Proofs.YtkjkkimnjpodiaaGreatDoor.Rows (uptoBulk uptoBulkAll)

def immOf (W : World) : Imm := ⟨fun b => W.heap[b]?, W.os, W.tape, W.output, 0⟩
theorem holds_immOf (W : World) : Holds (immOf W) [] W := ⟨fun _ _ h => h, by simp, by simp, by simp, rfl, rfl, rfl, Nat.zero_le _⟩
theorem below_of {I' : Imm} {L' : Own} {W W' : World} (h : Holds I' L' W') (hI : immOf W ≤ I') : Below W.heap.size W W' := by
  refine ⟨by rw [h.os, hI.os]; rfl, by rw [h.tape, hI.tape]; rfl, by rw [h.out, hI.out]; rfl, ?_, fun k hk => ?_⟩
  · rcases Nat.eq_zero_or_pos W.heap.size with h0 | h0
    · omega
    · have : W.heap[W.heap.size - 1]? = some (W.heap[W.heap.size - 1]'(by omega)) := Array.getElem?_eq_getElem _
      have := lt_of_heap (h.imm _ _ (hI.h _ _ this))
      omega
  · have : W.heap[k]? = some (W.heap[k]) := Array.getElem?_eq_getElem hk
    rw [this]; exact h.imm _ _ (hI.h _ _ this)
theorem imm_cell {W : World} {a : Addr} {v : Value} (h : W.cell? a = some v) : (immOf W).cell a = some v := h
theorem run_of_cells {W : World} {a : Addr} {n : Nat} {cs : List Value} (h : W.cells? 0 a n = some cs) : RunAt (immOf W) a cs := fun j v hj => by
  unfold World.cells? at h
  rw [if_pos (Nat.zero_le _)] at h
  have hl := mapM_some_length h
  have hj' : j < n := by have := (List.getElem?_eq_some_iff.1 hj).1; simpa [hl] using this
  have := mapM_some_get h j j (by simp [hj'])
  exact imm_cell (this.trans hj)

def Reads {α : Type} (P : Program) (T : TypeId) (d : Kd α) (w : α → Nat → Prop) : Prop := ∀ {H : Type} {enc : TypeId × Value → H} {W : World} {spare : Nat → Bool} {held : Bool} {fuel : Nat} {cs : List Value} {x : DataW H × List MemPlace},
  DataW.trod enc P W 0 spare held fuel T cs = some x → uptoBulk x.1 ≤ 1048576 → ∃ y, d.R (immOf W) y cs ∧ w y (uptoBulk x.1)
theorem reads_int {P : Program} {T : TypeId} {k : IntKind} (h : P.underlying T = some (.int k)) : Reads P T (Kd.int k) (wInt k) := fun ht _ => by
  obtain ⟨n, rfl, _, hw⟩ := DataW.trod_int h ht
  simp only [Lit.wf, Bool.and_eq_true, decide_eq_true_eq] at hw
  exact ⟨n, rfl, hw⟩
theorem bulk_pos {H : Type} (d : DataW H) : 1 ≤ uptoBulk d := by
  cases d with
  | lit l => cases l <;> simp [uptoBulk]
  | _ => simp [uptoBulk]
theorem bulkAll_ge {H : Type} : ∀ (l : List (DataW H)), l.length ≤ uptoBulkAll l
  | [] => by simp
  | d :: r => by have := bulk_pos d; have := bulkAll_ge r; simp only [uptoBulkAll, List.length_cons]; omega
theorem bulkAll_mem {H : Type} {d : DataW H} : ∀ {l : List (DataW H)}, d ∈ l → uptoBulk d ≤ uptoBulkAll l
  | [], h => by cases h
  | e :: r, h => by
    simp only [uptoBulkAll]
    rcases List.mem_cons.1 h with rfl | h
    · omega
    · have := bulkAll_mem h; omega
theorem choose_list {α : Type} {p : Nat → α → Prop} : ∀ (n : Nat), (∀ i, i < n → ∃ y, p i y) → ∃ xs : List α, xs.length = n ∧ ∀ i x, xs[i]? = some x → p i x
  | 0, _ => ⟨[], rfl, fun i x h => by simp at h⟩
  | m + 1, key => by
    obtain ⟨xs, hxl, hx⟩ := choose_list m (fun i hi => key i (by omega))
    obtain ⟨y, hy⟩ := key m (by omega)
    refine ⟨xs ++ [y], by simp [hxl], fun i x h => ?_⟩
    rcases Nat.lt_or_ge i m with hi | hi
    · rw [List.getElem?_append_left (by omega)] at h; exact hx i x h
    · rw [List.getElem?_append_right (by omega), hxl] at h
      have hi0 : i - m = 0 := by have := (List.getElem?_eq_some_iff.1 h).1; simpa using this
      rw [hi0] at h
      simp only [List.getElem?_cons_zero, Option.some.injEq] at h
      subst h
      rw [show i = m from by omega]
      exact hy
theorem wSl_of {α H : Type} {w : α → Nat → Prop} : ∀ (xs : List α) (es : List (DataW H)), xs.length = es.length → (∀ (i : Nat) (x : α) (e : DataW H), xs[i]? = some x → es[i]? = some e → w x (uptoBulk e)) → wSl w xs (uptoBulkAll es)
  | [], _, _, _ => trivial
  | x :: r, [], h, _ => by simp at h
  | x :: r, e :: es, h, hw => ⟨uptoBulk e, uptoBulkAll es, hw 0 x e rfl rfl, wSl_of r es (by simpa using h) (fun i x' e' h1 h2 => hw (i + 1) x' e' (by simpa using h1) (by simpa using h2)), by simp [uptoBulkAll], bulk_pos e⟩
theorem reads_slice {α : Type} {P : Program} {T e : TypeId} {d : Kd α} {w : α → Nat → Prop} (hu : P.underlying T = some (.slice e)) (hn : P.cellsOf e = d.n) (hr : Reads P e d w) : Reads P T (Kd.sl d) (wSl w) := by
  intro H enc W spare held fuel cs x ht hb
  rcases DataW.trod_slice hu ht with ⟨rfl, rfl⟩ | ⟨a, len, cap, elems, rest, n, rfl, rfl, rfl, _, hlc, hcm, hel, hat, _, _⟩
  · exact ⟨[], ⟨none, 0, rfl, RepS.nil _ _⟩, trivial⟩
  · simp only [uptoBulk] at hb
    have hlen := bulkAll_ge (elems.map (·.1))
    rw [List.length_map, hel] at hlen
    have key : ∀ i, i < len → ∃ y, (∃ cs', d.R (immOf W) y cs' ∧ RunAt (immOf W) (a.add (i * d.n)) cs') ∧ ∀ e, (elems.map (·.1))[i]? = some e → w y (uptoBulk e) := fun i hi => by
      have h1 := hat i hi
      have hie : i < elems.length := by omega
      rw [List.getElem?_eq_getElem hie] at h1
      simp only [Option.bind_eq_some_iff] at h1
      obtain ⟨cs', h2, h3⟩ := h1
      obtain ⟨y, hy, hw⟩ := hr h3 (by
        have := bulkAll_mem (l := elems.map (·.1)) (List.mem_map_of_mem (List.getElem_mem hie))
        omega)
      refine ⟨y, ⟨cs', hy, ?_⟩, fun e he => ?_⟩
      · rw [← hn]
        exact run_of_cells h2
      · rw [List.getElem?_map, List.getElem?_eq_getElem hie] at he
        cases he; exact hw
    have hex := choose_list (p := fun i y => (∃ cs', d.R (immOf W) y cs' ∧ RunAt (immOf W) (a.add (i * d.n)) cs') ∧ ∀ e, (elems.map (·.1))[i]? = some e → w y (uptoBulk e)) len key
    obtain ⟨xs, hxl, hx⟩ := hex
    refine ⟨xs, ⟨some a, cap, by rw [hxl], by omega, by unfold maxLen'; omega, fun i x h => ?_⟩, ?_⟩
    · obtain ⟨⟨cs', h1, h2⟩, _⟩ := hx i x h
      exact ⟨a, cs', rfl, h1, h2⟩
    · exact (wSl_of xs (elems.map (·.1)) (by simp [hxl, hel]) (fun i x e h1 h2 => (hx i x h1).2 e h2)).le (by simp only [uptoBulk]; omega)
theorem calls_of {P : Program} {f : FuncId} {args : Array Value} {W : World} {b : Value} (h : CallsTo P f args (immOf W) [] (fun v I' L' => v = b ∧ [] = L')) : Calls P f args W fun e W' => e = .returned b ∧ Below W.heap.size W W' :=
  (h W (holds_immOf W)).mono fun e W' ⟨v, I', L', he, hI, hh, hv, _⟩ => ⟨by rw [he, hv], below_of hh hI⟩
end Go.GB

/- Floats that are read. -/
set_option linter.unusedVariables false
set_option linter.unusedSimpArgs false
namespace Go.GB
open Go Go.RowKit
theorem trod_float {H : Type} {enc : TypeId × Value → H} {P : Program} {w : World} {base : Nat} {spare : Nat → Bool} {held : Bool} {fuel : Nat} {t : TypeId} {cs : List Value} {x : DataW H × List MemPlace} {k : FloatKind} (ht : P.underlying t = some (.float k)) (h : DataW.trod enc P w base spare held fuel t cs = some x) :
    ∃ b, cs = [.float k b] ∧ x = (.lit (.float k b), []) ∧ (Lit.float k b).wf = true := by
  cases fuel with
  | zero => simp [DataW.trod] at h
  | succ n =>
    unfold DataW.trod at h
    rw [ht] at h
    split at h <;> simp_all
theorem reads_flt {P : Program} {T : TypeId} (h : P.underlying T = some (.float .f64)) : Reads P T Kd.flt wFlt := fun ht _ => by
  obtain ⟨b, rfl, _, hw⟩ := trod_float h ht
  simp only [Lit.wf, decide_eq_true_eq] at hw
  exact ⟨some b, ⟨b, rfl, rfl⟩, b, rfl, hw⟩
end Go.GB

/- Plain laws of doubles: their order; multiples of a place are summed exactly. -/
set_option linter.unusedVariables false
set_option linter.unusedSimpArgs false
set_option maxRecDepth 100000
namespace Go.Proofs.YtkjkkimnjpodiaaGreatDoor
open Go.GB Ieee
theorem signed_mul (s : Bool) (m k : Nat) : signed s m k = (bif s then -(m : Int) else m) * (2 ^ k : Nat) := by
  unfold signed
  rw [Nat.shiftLeft_eq]
  cases s with
  | true => simp only [if_true, cond_true, Int.natCast_mul, Int.neg_mul]
  | false => simp only [Bool.false_eq_true, if_false, cond_false, Int.natCast_mul]
theorem signed_add (s : Bool) (m k d : Nat) : signed s m (k + d) = signed s m k * (2 ^ d : Nat) := by
  rw [signed_mul, signed_mul, Nat.pow_add, Int.natCast_mul, Int.mul_assoc]
theorem icmp (a b : Int) : compare a b = if a < b then Ordering.lt else if a = b then .eq else .gt := rfl
theorem icmp_mul {a b : Int} {c : Nat} (hc : 0 < c) : compare (a * c) (b * c) = compare a b := by
  have hc' : (0 : Int) < c := by omega
  rw [icmp, icmp]
  by_cases h : a < b
  · rw [if_pos h, if_pos (Int.mul_lt_mul_of_pos_right h hc')]
  · have h1 : ¬ a * c < b * c := fun k => h (Int.lt_of_mul_lt_mul_right k (by omega))
    rw [if_neg h, if_neg h1]
    by_cases e : a = b
    · rw [e, if_pos rfl, if_pos rfl]
    · rw [if_neg e, if_neg fun k => e (Int.eq_of_mul_eq_mul_right (by omega) k)]
theorem icmp_trans {a b c : Int} {o : Ordering} (h : compare a b = o) (k : compare b c = o) : compare a c = o := by
  rw [icmp] at h k ⊢
  by_cases h1 : a < b
  · rw [if_pos h1] at h; subst h
    by_cases k1 : b < c
    · rw [if_pos (by omega)]
    · rw [if_neg k1] at k; split at k <;> cases k
  · rw [if_neg h1] at h
    by_cases h2 : a = b
    · subst h2; exact k
    · rw [if_neg h2] at h; subst h
      by_cases k1 : b < c
      · rw [if_pos k1] at k; cases k
      rw [if_neg k1] at k
      by_cases k2 : b = c
      · rw [if_pos k2] at k; cases k
      rw [if_neg (by omega), if_neg (by omega)]
theorem order_at {s t : Bool} {m n : Nat} {i j B : Int} (hi : B ≤ i) (hj : B ≤ j) : Datum.order (.number s m i) (.number t n j) = some (compare (signed s m (i - B).toNat) (signed t n (j - B).toNat)) := by
  simp only [Datum.order]
  have e1 : (i - B).toNat = (i - min i j).toNat + (min i j - B).toNat := by omega
  have e2 : (j - B).toNat = (j - min i j).toNat + (min i j - B).toNat := by omega
  rw [e1, e2, signed_add, signed_add, icmp_mul (Nat.two_pow_pos _)]
theorem order_trans {o : Ordering} (ho : o ≠ .eq) {x y z : Datum} (h : Datum.order x y = some o) (k : Datum.order y z = some o) : Datum.order x z = some o := by
  cases x with
  | nan _ _ => cases y <;> cases h
  | infinity s =>
    cases y with
    | nan _ _ => cases h
    | infinity t =>
      cases z with
      | nan _ _ => cases k
      | infinity u => cases s <;> cases t <;> cases u <;> cases o <;> first | exact absurd rfl ho | rfl | (cases h; done) | (cases k; done)
      | number u m i => cases s <;> cases t <;> cases o <;> first | exact absurd rfl ho | rfl | (cases h; done) | (cases k; done)
    | number t m i =>
      cases z with
      | nan _ _ => cases k
      | infinity u => cases s <;> cases u <;> cases o <;> first | exact absurd rfl ho | rfl | (cases h; done) | (cases k; done)
      | number u m i => exact h
  | number s m i =>
    cases y with
    | nan _ _ => cases h
    | infinity t =>
      cases z with
      | nan _ _ => cases k
      | infinity u => cases t <;> cases u <;> cases o <;> first | exact absurd rfl ho | rfl | (cases h; done) | (cases k; done)
      | number u m i => cases t <;> cases o <;> first | exact absurd rfl ho | (cases h; done) | (cases k; done)
    | number t n j =>
      cases z with
      | nan _ _ => cases k
      | infinity u => exact k
      | number u p l =>
        rw [order_at (B := min i (min j l)) (by omega) (by omega)] at h k ⊢
        exact congrArg some (icmp_trans (Option.some.inj h) (Option.some.inj k))
theorem order_self {x : Datum} (h : x.isNaN = false) : Datum.order x x = some .eq := by
  cases x with
  | nan _ _ => cases h
  | infinity s => cases s <;> rfl
  | number s m i =>
    simp only [Datum.order]
    rw [icmp, if_neg (by omega), if_pos rfl]
theorem order_nanl {x : Datum} (h : x.isNaN = true) (y : Datum) : Datum.order x y = none := by
  cases x with
  | nan _ _ => cases y <;> rfl
  | infinity s => cases h
  | number s m i => cases h
theorem order_nanr {x : Datum} (h : x.isNaN = true) (y : Datum) : Datum.order y x = none := by
  cases x with
  | nan _ _ => cases y <;> rfl
  | infinity s => cases h
  | number s m i => cases h
/-- Not a number. -/
def nanE (p : Fl) : Bool := fcmp .neq p p
theorem forder_nanr {p : Fl} (h : nanE p = true) (q : Fl) : forder q p = none := by
  cases p with
  | none => cases q <;> rfl
  | some x =>
    cases q with
    | none => rfl
    | some y =>
      cases hn : (double.read x).isNaN with
      | true => exact order_nanr hn _
      | false =>
        have : forder (some x) (some x) = some .eq := order_self hn
        unfold nanE fcmp at h
        simp only [this] at h
        cases h
theorem forder_nanl {p : Fl} (h : nanE p = true) (q : Fl) : forder p q = none := by
  cases p with
  | none => cases q <;> rfl
  | some x =>
    cases q with
    | none => rfl
    | some y =>
      cases hn : (double.read x).isNaN with
      | true => exact order_nanl hn _
      | false =>
        have : forder (some x) (some x) = some .eq := order_self hn
        unfold nanE fcmp at h
        simp only [this] at h
        cases h
theorem forder_trans {o : Ordering} (ho : o ≠ .eq) {a b c : Fl} (h : forder a b = some o) (k : forder b c = some o) : forder a c = some o := by
  cases a with
  | none => cases h
  | some x =>
    cases b with
    | none => cases h
    | some y =>
      cases c with
      | none => cases k
      | some z => exact order_trans ho (x := double.read x) (y := double.read y) (z := double.read z) h k
theorem flss {a b : Fl} : fcmp .lss a b = true ↔ forder a b = some .lt := by unfold fcmp; exact beq_iff_eq
theorem fgtr {a b : Fl} : fcmp .gtr a b = true ↔ forder a b = some .gt := by unfold fcmp; exact beq_iff_eq
/-! ### Multiples of a place -/
theorem log2_shift {m : Nat} (hm : m ≠ 0) (k : Nat) : (m * 2 ^ k).log2 = m.log2 + k := by
  have h1 := Nat.log2_self_le hm
  have h2 := @Nat.lt_log2_self m
  rw [Nat.log2_eq_iff (by have := Nat.two_pow_pos k; intro h; rcases Nat.mul_eq_zero.1 h with h | h <;> omega)]
  constructor
  · rw [Nat.pow_add]; exact Nat.mul_le_mul_right _ h1
  · rw [show m.log2 + k + 1 = (m.log2 + 1) + k by omega, Nat.pow_add]; exact Nat.mul_lt_mul_of_pos_right h2 (Nat.two_pow_pos k)
/-- The rung of a multiple of a place. -/
def rungE (m : Nat) (u : Int) : Nat := (u + m.log2 - 52 + 1074).toNat * 2 ^ 52 + m * 2 ^ (52 - m.log2)
theorem cut_none (s : Bool) (n : Nat) : Toward.even.cut s n 0 = n := by
  unfold Toward.cut
  simp only [Nat.zero_min, Nat.shiftLeft_zero, Nat.div_one, Nat.mod_one]
  rfl
theorem cut_whole {s : Bool} {n q d : Nat} (h : n = q * 2 ^ d) (hn : n ≠ 0) : Toward.even.cut s n d = q := by
  have hq : q ≠ 0 := fun e => hn (by rw [h, e, Nat.zero_mul])
  have hl : d ≤ n.log2 := by rw [h, log2_shift hq]; omega
  unfold Toward.cut
  have hp := Nat.two_pow_pos d
  simp only [Nat.min_eq_left (show d ≤ n.log2 + 2 by omega), Nat.shiftLeft_eq, Nat.one_mul]
  rw [h, Nat.mul_div_cancel _ hp, Nat.mul_mod_left]
  rw [show decide (2 ^ d < 2 * 0) = false from decide_eq_false (by omega), show ((2 ^ d : Nat) == 2 * 0) = false from beq_eq_false_iff_ne.2 (by omega)]
  rfl
theorem near_exact (s : Bool) {m : Nat} (hm : m ≠ 0) (hl : m.log2 ≤ 52) {u : Int} (h1 : -1000 ≤ u) (h2 : u ≤ 900) (k : Nat) : double.nearest s (m * 2 ^ k) (u - k) = double.word s (rungE m u) := by
  have hp := Nat.two_pow_pos k
  have hmk : m * 2 ^ k ≠ 0 := fun h => by rcases Nat.mul_eq_zero.1 h with h | h <;> omega
  unfold Format.nearest
  rw [if_neg hmk, log2_shift hm]
  have hlp : double.leastPlace = -1074 := by decide
  have hfb : double.fractionBits = 52 := rfl
  have hbi : double.binade = 2 ^ 52 := rfl
  have hir : double.infRung = 2047 * 2 ^ 52 := by decide
  rw [hlp, hfb, hbi, hir]
  have hlast : max (u - (k : Int) + ((m.log2 + k : Nat) : Int) - ((52 : Nat) : Int)) (-1074) = u + m.log2 - 52 := by omega
  simp only [hlast]
  have hm1 := Nat.log2_self_le hm
  have hm2 := @Nat.lt_log2_self m
  have hkept : Toward.even.cut s ((m * 2 ^ k) <<< (u - (k : Int) - (u + m.log2 - 52)).toNat) (u + m.log2 - 52 - (u - (k : Int))).toNat = m * 2 ^ (52 - m.log2) := by
    by_cases hk : k ≤ 52 - m.log2
    · rw [show (u + (m.log2 : Int) - 52 - (u - (k : Int))).toNat = 0 by omega, cut_none, Nat.shiftLeft_eq, Nat.mul_assoc, ← Nat.pow_add]
      congr 2
      omega
    · rw [show (u - (k : Int) - (u + (m.log2 : Int) - 52)).toNat = 0 by omega, Nat.shiftLeft_zero]
      refine cut_whole ?_ hmk
      rw [Nat.mul_assoc, ← Nat.pow_add]
      congr 2
      omega
  rw [hkept]
  have hb : m * 2 ^ (52 - m.log2) < 2 ^ 53 := by
    have : m * 2 ^ (52 - m.log2) < 2 ^ (m.log2 + 1) * 2 ^ (52 - m.log2) := Nat.mul_lt_mul_of_pos_right hm2 (Nat.two_pow_pos _)
    rw [← Nat.pow_add, show m.log2 + 1 + (52 - m.log2) = 53 by omega] at this
    exact this
  unfold rungE
  rw [show u + (m.log2 : Int) - 52 - -1074 = u + m.log2 - 52 + 1074 by omega, Nat.min_eq_left]
  have : (u + (m.log2 : Int) - 52 + 1074).toNat ≤ 2045 := by omega
  generalize (u + (m.log2 : Int) - 52 + 1074).toNat = q at *
  generalize m * 2 ^ (52 - m.log2) = r at *
  omega
theorem read_word (s : Bool) {q r : Nat} (hq : q ≤ 2045) (hr : 2 ^ 52 ≤ r) (hr2 : r < 2 ^ 53) : double.read (double.word s (q * 2 ^ 52 + r)) = .number s r (q - 1074) := by
  have hsw : double.signWeight = 2 ^ 63 := by decide
  have hlp : double.leastPlace = -1074 := by decide
  have hbi : double.binade = 2 ^ 52 := rfl
  have hir : double.infRung = 2047 * 2 ^ 52 := by decide
  unfold Format.read Format.word
  rw [hsw, hlp, hbi, hir]
  have hw : (if s then 2 ^ 63 + (q * 2 ^ 52 + r) else q * 2 ^ 52 + r) % 2 ^ 63 = q * 2 ^ 52 + r := by cases s <;> simp <;> omega
  have hn : ((if s then 2 ^ 63 + (q * 2 ^ 52 + r) else q * 2 ^ 52 + r) / 2 ^ 63 % 2 == 1) = s := by
    cases s with
    | true => simp only [if_true]; rw [show (2 ^ 63 + (q * 2 ^ 52 + r)) / 2 ^ 63 % 2 = 1 by omega]; rfl
    | false => simp only [Bool.false_eq_true, if_false]; rw [show (q * 2 ^ 52 + r) / 2 ^ 63 % 2 = 0 by omega]; rfl
  simp only [hw, hn]
  rw [if_neg (by omega), if_pos (by omega)]
  rw [show 2 ^ 52 + (q * 2 ^ 52 + r) % 2 ^ 52 = r by omega, show (q * 2 ^ 52 + r) / 2 ^ 52 - 1 = q by omega]
  rw [show (-1074 : Int) + (q : Int) = q - 1074 by omega]
/-- A datum stands for so many of a place. -/
def ValU (u : Int) (d : Datum) (z : Int) : Prop := ∃ m i, d = .number (decide (z < 0)) m i ∧ i ≤ u ∧ ∀ b ≤ i, signed (decide (z < 0)) m (i - b).toNat = z * (2 ^ (u - b).toNat : Nat)
/-- The word of so many of a place. -/
def wordU (u : Int) (z : Int) : Nat := double.write (.number (decide (z < 0)) z.natAbs u)
theorem write_zero (p : Int) : double.write (.number false 0 p) = 0 := by
  simp only [Format.write]
  unfold Format.nearest
  rw [if_pos rfl]
  rfl
theorem log2_le {m : Nat} (hm : m ≠ 0) (h : m < 2 ^ 53) : m.log2 ≤ 52 := by
  have h1 := Nat.log2_self_le hm
  by_cases h2 : m.log2 ≤ 52
  · exact h2
  · have : 2 ^ 53 ≤ 2 ^ m.log2 := Nat.pow_le_pow_right (by omega) (by omega)
    omega
theorem wordU_eq {u z : Int} (hz : z ≠ 0) (hb : z.natAbs < 2 ^ 53) (h1 : -1000 ≤ u) (h2 : u ≤ 900) : wordU u z = double.word (decide (z < 0)) (rungE z.natAbs u) := by
  have := near_exact (decide (z < 0)) (m := z.natAbs) (by omega) (log2_le (by omega) hb) h1 h2 0
  rw [Nat.pow_zero, Nat.mul_one, show u - ((0 : Nat) : Int) = u by omega] at this
  exact this
theorem sgn_mul {z : Int} (k : Nat) : (bif decide (z < 0) then -((z.natAbs * k : Nat) : Int) else ((z.natAbs * k : Nat) : Int)) = z * k := by
  rw [Int.natCast_mul]
  by_cases h : z < 0
  · rw [decide_eq_true h]; simp only [cond_true]; rw [← Int.neg_mul]; congr 1; omega
  · rw [decide_eq_false h]; simp only [cond_false]; congr 1; omega
theorem wordU_val {u z : Int} (hb : z.natAbs < 2 ^ 53) (h1 : -1000 ≤ u) (h2 : u ≤ 900) : ValU u (double.read (wordU u z)) z := by
  by_cases hz : z = 0
  · subst hz
    refine ⟨0, -1074, ?_, by omega, fun b hb => ?_⟩
    · show double.read (double.nearest (decide ((0 : Int) < 0)) (Int.natAbs 0) u) = _
      unfold Format.nearest
      rw [if_pos (show Int.natAbs 0 = 0 from rfl)]
      decide
    · rw [signed_mul]; simp
  · have hl := log2_le (m := z.natAbs) (by omega) hb
    have hm1 := Nat.log2_self_le (n := z.natAbs) (by omega)
    have hm2 := @Nat.lt_log2_self z.natAbs
    rw [wordU_eq hz hb h1 h2]
    unfold rungE
    have hb1 : z.natAbs * 2 ^ (52 - z.natAbs.log2) < 2 ^ 53 := by
      have : z.natAbs * 2 ^ (52 - z.natAbs.log2) < 2 ^ (z.natAbs.log2 + 1) * 2 ^ (52 - z.natAbs.log2) := Nat.mul_lt_mul_of_pos_right hm2 (Nat.two_pow_pos _)
      rw [← Nat.pow_add, show z.natAbs.log2 + 1 + (52 - z.natAbs.log2) = 53 by omega] at this
      exact this
    have hb2 : 2 ^ 52 ≤ z.natAbs * 2 ^ (52 - z.natAbs.log2) := by
      have : 2 ^ z.natAbs.log2 * 2 ^ (52 - z.natAbs.log2) ≤ z.natAbs * 2 ^ (52 - z.natAbs.log2) := Nat.mul_le_mul_right _ hm1
      rw [← Nat.pow_add, show z.natAbs.log2 + (52 - z.natAbs.log2) = 52 by omega] at this
      exact this
    rw [read_word _ (by omega) hb2 hb1]
    refine ⟨_, _, rfl, by omega, fun b hb => ?_⟩
    rw [signed_mul, sgn_mul, Int.mul_assoc, ← Int.natCast_mul, ← Nat.pow_add]
    congr 3
    omega
theorem sum_exact {u y z : Int} {d e : Datum} (hd : ValU u d y) (he : ValU u e z) (hb : (y + z).natAbs < 2 ^ 53) (h1 : -1000 ≤ u) (h2 : u ≤ 900) : (Datum.sum d e).map double.write = some (wordU u (y + z)) := by
  obtain ⟨m, i, rfl, i1, i2⟩ := hd
  obtain ⟨n, j, rfl, j1, j2⟩ := he
  simp only [Datum.sum, Option.map_some]
  congr 1
  rw [i2 _ (Int.min_le_left i j), j2 _ (Int.min_le_right i j), ← Int.add_mul]
  have hp := Nat.two_pow_pos (u - min i j).toNat
  have hk : u - ((u - min i j).toNat : Int) = min i j := by omega
  generalize (u - min i j).toNat = k at *
  by_cases hz : y + z = 0
  · rw [hz, Int.zero_mul, if_pos rfl]
    have : (decide (y < 0) && decide (z < 0)) = false := by
      by_cases h : y < 0
      · rw [decide_eq_false (show ¬ z < 0 by omega), Bool.and_false]
      · rw [decide_eq_false h, Bool.false_and]
    rw [this]
    exact (write_zero _).trans (write_zero u).symm
  · have hne : (y + z) * ((2 ^ k : Nat) : Int) ≠ 0 := fun h => by rcases Int.mul_eq_zero.1 h with h | h <;> omega
    rw [if_neg hne, Int.natAbs_mul, Int.natAbs_natCast, wordU_eq hz hb h1 h2]
    have hs : decide ((y + z) * ((2 ^ k : Nat) : Int) < 0) = decide (y + z < 0) := by
      by_cases h : y + z < 0
      · rw [decide_eq_true h, decide_eq_true (Int.mul_neg_of_neg_of_pos h (by omega))]
      · rw [decide_eq_false h, decide_eq_false (Int.not_lt.2 (Int.mul_nonneg (by omega) (by omega)))]
    rw [hs, ← hk]
    have h9 := near_exact (decide (y + z < 0)) (m := (y + z).natAbs) (by omega) (log2_le (by omega) hb) h1 h2 k
    simp only [Format.write]
    exact h9
theorem add_exact {u y z : Int} (hy : y.natAbs < 2 ^ 53) (hz : z.natAbs < 2 ^ 53) (hb : (y + z).natAbs < 2 ^ 53) (h1 : -1000 ≤ u) (h2 : u ≤ 900) : double.add (wordU u y) (wordU u z) = some (wordU u (y + z)) :=
  sum_exact (wordU_val hy h1 h2) (wordU_val hz h1 h2) hb h1 h2
end Go.Proofs.YtkjkkimnjpodiaaGreatDoor

/- What plain functions come to: a calculus for 'it answers, and its answer is ..'. -/
set_option linter.unusedVariables false
set_option linter.unusedSimpArgs false
namespace Go.GB
theorem wrap_up {i : Nat} (h : i < 4294967296) : IntKind.wrap .i64 ((i : Int) + 1) = ((i + 1 : Nat) : Int) := by rw [wrap64 (by omega) (by omega)]; omega
theorem ix_nat {α : Type} (xs : List α) (i : Nat) : ix xs (i : Int) = xs[i]? := by simp [ix]
theorem toList_inj {a b : ByteArray} : (a.toList == b.toList) = true ↔ a = b := by
  rw [ByteArray.toList_eq, ByteArray.toList_eq]
  obtain ⟨⟨x⟩⟩ := a
  obtain ⟨⟨y⟩⟩ := b
  simp
end Go.GB

/- Plain laws, base: loops that are alike; searches; words of bits. -/
set_option linter.unusedVariables false
set_option linter.unusedSimpArgs false
namespace Go.GB
/-- One round. -/
theorem loopO_step {σ ρ : Type} {b : σ → Option (σ ⊕ ρ)} {s s' : σ} (h : b s = some (.inl s')) : loopO b s = loopO b s' := by rw [loopO_eq, h]; rfl
theorem loopO_done {σ ρ : Type} {b : σ → Option (σ ⊕ ρ)} {s : σ} {r : ρ} (h : b s = some (.inr r)) : loopO b s = some r := by rw [loopO_eq, h]; rfl
/-- A search that goes up: the first place at which there is something to tell. -/
theorem up_find {ρ : Type} {body : Int → Option (Int ⊕ (Unit ⊕ ρ))} {n : Nat} (p : Nat → Option ρ) (h : ∀ i : Nat, i < n → body i = some (match p i with | some r => .inr (.inr r) | none => .inl ((i + 1 : Nat) : Int))) (he : body n = some (.inr (.inl ()))) :
    loopO body 0 = some (match (List.range n).findSome? p with | some r => .inr r | none => .inl ()) := by
  have key : ∀ d i : Nat, i + d = n → loopO body i = some (match (List.range' i d).findSome? p with | some r => .inr r | none => .inl ()) := by
    intro d
    induction d with
    | zero =>
      intro i hi
      have : i = n := by omega
      subst this
      simp [loopO_done he]
    | succ d ih =>
      intro i hi
      have h1 := h i (by omega)
      rw [List.range'_succ, List.findSome?_cons]
      cases hp : p i with
      | some r => rw [hp] at h1; rw [loopO_done h1]
      | none => rw [hp] at h1; rw [loopO_step h1]; exact ih (i + 1) (by omega)
  have := key n 0 (by omega)
  rw [List.range_eq_range']
  exact this
/-- All of a list, by a loop that goes up. -/
theorem up_all {body : Int → Option (Int ⊕ (Unit ⊕ Bool))} {n : Nat} (q : Nat → Bool) (h : ∀ i : Nat, i < n → body i = some (bif q i then .inl ((i + 1 : Nat) : Int) else .inr (.inr false))) (he : body n = some (.inr (.inl ()))) :
    loopO body 0 = some (if (List.range n).all q then .inl () else .inr false) := by
  rw [up_find (fun i => if q i then none else some false) (fun i hi => by rw [h i hi]; cases q i <;> rfl) he]
  congr 1
  by_cases ha : (List.range n).all q = true
  · rw [if_pos ha]
    have : (List.range n).findSome? (fun i => if q i then none else some false) = none := by
      rw [List.findSome?_eq_none_iff]
      intro i hi
      rw [if_pos (List.all_eq_true.1 ha i hi)]
    rw [this]
  · rw [if_neg ha]
    have hx : (List.range n).all q = false := by simpa using ha
    rw [List.all_eq_false] at hx
    obtain ⟨i, hi, hq⟩ := hx
    cases hf : (List.range n).findSome? (fun i => if q i then none else some false) with
    | none =>
      rw [List.findSome?_eq_none_iff] at hf
      have := hf i hi
      rw [if_neg hq] at this; cases this
    | some b =>
      obtain ⟨j, _, hj⟩ := List.exists_of_findSome?_eq_some hf
      split at hj <;> cases hj
      rfl
end Go.GB

/- Plain laws, base: the order of texts. -/
set_option linter.unusedVariables false
set_option linter.unusedSimpArgs false
namespace Go.GB
open Go.Lib
theorem toList_eq (a : ByteArray) : a.toList = a.data.toList := ByteArray.toList_eq a
end Go.GB

/- Plain laws, base: words of bits; numbers in few bytes. -/
set_option linter.unusedVariables false
set_option linter.unusedSimpArgs false
namespace Go.GB
theorem app_eq {α : Type} {xs ys : List α} (h : xs.length + ys.length ≤ 2147483648) : app xs ys = some (xs ++ ys) := by unfold app maxLen'; rw [if_pos (by simpa using h)]
end Go.GB

/- Plain laws: least and greatest of values; sums of multiples of a place. -/
set_option linter.unusedVariables false
set_option linter.unusedSimpArgs false
set_option maxRecDepth 100000
namespace Go.Proofs.YtkjkkimnjpodiaaGreatDoor
open Go.GB Go.Lib
theorem fold_loop {α β ρ : Type} {body : β × Int → Option ((β × Int) ⊕ ρ)} (l : List α) (f : β → α → β) (g : β → ρ) (acc0 : β)
    (h : ∀ (acc : β) (i : Nat) (hi : i < l.length), body (acc, (i : Int)) = some (.inl (f acc l[i], ((i + 1 : Nat) : Int)))) (he : ∀ acc, body (acc, (l.length : Int)) = some (.inr (g acc))) :
    loopO body (acc0, 0) = some (g (l.foldl f acc0)) := by
  have := up_inv (body := body) (fun k => ((l.take k).foldl f acc0, (k : Int))) (n := l.length) (r := g (l.foldl f acc0)) (fun k hk => by
    rw [h _ k hk, List.take_add_one, List.getElem?_eq_getElem hk, List.foldl_append]; rfl)
    (by rw [List.take_length]; exact he _) 0 (by omega)
  rw [List.take_zero] at this
  exact this
/-! ### The least and the greatest -/
def mostE (c : BinOp) (l : List Fl) (m : Fl) : Fl := l.foldl (fun m x => bif fcmp c x m || nanE m then x else m) m
theorem most_inv {c : BinOp} {o : Ordering} (hc : ∀ a b : Fl, fcmp c a b = true ↔ forder a b = some o) (ho : o ≠ .eq) : ∀ (l seen : List Fl) (m : Fl), (∀ y ∈ seen, fcmp c y m = false) → (nanE m = true → ∀ y ∈ seen, nanE y = true) →
    ∀ y ∈ seen ++ l, fcmp c y (mostE c l m) = false
  | [], seen, m, h1, h2 => fun y hy => h1 y (by simpa using hy)
  | x :: l, seen, m, h1, h2 => by
    have hself : ∀ y : Fl, fcmp c y y = false := fun y => by
      cases h : fcmp c y y with
      | false => rfl
      | true =>
        have h3 := (hc y y).1 h
        cases hn : nanE y with
        | true => rw [forder_nanl hn] at h3; cases h3
        | false =>
          unfold nanE fcmp at hn
          simp only [h3] at hn
          cases o <;> first | exact absurd rfl ho | cases hn
    have hnanl : ∀ a b : Fl, nanE a = true → fcmp c a b = false := fun a b h => by
      cases h3 : fcmp c a b with
      | false => rfl
      | true => rw [hc, forder_nanl h] at h3; cases h3
    have step : mostE c (x :: l) m = mostE c l (bif fcmp c x m || nanE m then x else m) := rfl
    rw [step, show seen ++ x :: l = (seen ++ [x]) ++ l by simp]
    cases hb : (fcmp c x m || nanE m) with
    | true =>
      simp only [cond_true]
      refine most_inv hc ho l (seen ++ [x]) x (fun y hy => ?_) (fun hx y hy => ?_)
      · rcases List.mem_append.1 hy with hy | hy
        · cases h3 : fcmp c y x with
          | false => rfl
          | true =>
            rcases Bool.or_eq_true _ _ ▸ hb with h4 | h4
            · have := h1 y hy
              rw [(hc y m).2 (forder_trans ho ((hc y x).1 h3) ((hc x m).1 h4))] at this
              cases this
            · rw [hnanl y x (h2 h4 y hy)] at h3; cases h3
        · rw [List.mem_singleton.1 hy]; exact hself x
      · rcases List.mem_append.1 hy with hy | hy
        · rcases Bool.or_eq_true _ _ ▸ hb with h4 | h4
          · rw [hnanl x m hx] at h4; cases h4
          · exact h2 h4 y hy
        · rw [List.mem_singleton.1 hy]; exact hx
    | false =>
      obtain ⟨h3, h4⟩ := Bool.or_eq_false_iff.1 hb
      simp only [cond_false]
      refine most_inv hc ho l (seen ++ [x]) m (fun y hy => ?_) (fun hx y hy => ?_)
      · rcases List.mem_append.1 hy with hy | hy
        · exact h1 y hy
        · rw [List.mem_singleton.1 hy]; exact h3
      · rw [h4] at hx; cases hx
theorem min_eq {x : Fl} {l : List Fl} (hl : (x :: l).length < 2147483648) (p : Fl) : aggr_values_min (x :: l) p = some (mostE .lss (x :: l) x) := by
  unfold aggr_values_min
  rw [show ix (x :: l) (0 : Int) = some x from rfl]
  simp only [Option.bind_some]
  rw [fold_loop (x :: l) (fun m x => bif fcmp .lss x m || nanE m then x else m) id x (fun acc i hi => ?_) (fun acc => ?_)]
  · rfl
  · unfold aggr_values_min_l32
    rw [show decide ((((acc, (i : Int)) : Fl × Int)).2 < ((x :: l).length : Int)) = true from decide_eq_true (by show (i : Int) < _; omega)]
    simp only [cond_true, ix_nat, List.getElem?_eq_getElem hi, Option.bind_some, wrap_up (show i < 4294967296 by omega)]
    unfold nanE math_IsNaN
    cases fcmp .lss (x :: l)[i] acc <;> cases fcmp .neq acc acc <;> rfl
  · unfold aggr_values_min_l32
    rw [show decide ((((acc, ((x :: l).length : Int)) : Fl × Int)).2 < ((x :: l).length : Int)) = false from decide_eq_false (by show ¬ ((x :: l).length : Int) < _; omega)]; rfl
theorem max_eq {x : Fl} {l : List Fl} (hl : (x :: l).length < 2147483648) (p : Fl) : aggr_values_max (x :: l) p = some (mostE .gtr (x :: l) x) := by
  unfold aggr_values_max
  rw [show ix (x :: l) (0 : Int) = some x from rfl]
  simp only [Option.bind_some]
  rw [fold_loop (x :: l) (fun m x => bif fcmp .gtr x m || nanE m then x else m) id x (fun acc i hi => ?_) (fun acc => ?_)]
  · rfl
  · unfold aggr_values_max_l32
    rw [show decide ((((acc, (i : Int)) : Fl × Int)).2 < ((x :: l).length : Int)) = true from decide_eq_true (by show (i : Int) < _; omega)]
    simp only [cond_true, ix_nat, List.getElem?_eq_getElem hi, Option.bind_some, wrap_up (show i < 4294967296 by omega)]
    unfold nanE math_IsNaN
    cases fcmp .gtr (x :: l)[i] acc <;> cases fcmp .neq acc acc <;> rfl
  · unfold aggr_values_max_l32
    rw [show decide ((((acc, ((x :: l).length : Int)) : Fl × Int)).2 < ((x :: l).length : Int)) = false from decide_eq_false (by show ¬ ((x :: l).length : Int) < _; omega)]; rfl
/-! ### Sums -/
def sumE : List Fl → Option Fl
  | [] => none
  | x :: l => some (l.foldl (farith .add) x)
theorem lx_tail {α : Type} (x : α) (l : List α) : lx (x :: l) 1 ((x :: l).length : Int) = some l := by
  unfold lx
  rw [if_pos ⟨by omega, by simp; omega, by omega⟩]
  simp
theorem sum_eq (l : List Fl) (hl : l.length < 2147483648) (p : Fl) : aggr_values_sum l p = sumE l := by
  unfold aggr_values_sum
  cases l with
  | nil => rfl
  | cons x l =>
    rw [show ix (x :: l) (0 : Int) = some x from rfl, lx_tail]
    simp only [Option.bind_some]
    rw [fold_loop l (farith .add) id x (fun acc i hi => ?_) (fun acc => ?_)]
    · rfl
    · unfold aggr_values_sum_l37
      rw [show decide ((((acc, (i : Int)) : Fl × Int)).2 < (l.length : Int)) = true from decide_eq_true (by show (i : Int) < _; omega)]
      simp only [cond_true, ix_nat, List.getElem?_eq_getElem hi, Option.bind_some, wrap_up (show i < 4294967296 by simp at hl; omega)]
    · unfold aggr_values_sum_l37
      rw [show decide ((((acc, (l.length : Int)) : Fl × Int)).2 < (l.length : Int)) = false from decide_eq_false (by show ¬ (l.length : Int) < _; omega)]; rfl
theorem sum_words {u : Int} (h1 : -1000 ≤ u) (h2 : u ≤ 900) (B : Nat) : ∀ (l : List Int) (z : Int), (∀ x ∈ l, x.natAbs ≤ B) → z.natAbs + (l.length + 1) * B < 2 ^ 53 →
    (l.map fun x => (some (wordU u x) : Fl)).foldl (farith .add) (some (wordU u z)) = some (wordU u (z + l.sum))
  | [], z, _, _ => by simp
  | x :: l, z, hB, hz => by
    have hx := hB x (by simp)
    have e : ((x :: l).length + 1) * B = (l.length + 1) * B + B := by rw [List.length_cons, Nat.add_mul (l.length + 1)]; simp
    rw [e] at hz
    rw [List.map_cons, List.foldl_cons]
    have ha : farith .add (some (wordU u z)) (some (wordU u x)) = some (wordU u (z + x)) := by
      show Ieee.double.add _ _ = _
      exact add_exact (by omega) (by omega) (by omega) h1 h2
    rw [ha, sum_words h1 h2 B l (z + x) (fun y hy => hB y (by simp [hy])) (by omega), List.sum_cons, Int.add_assoc]
theorem word_num {u z : Int} (hb : z.natAbs < 2 ^ 53) (h1 : -1000 ≤ u) (h2 : u ≤ 900) : nanE (some (wordU u z)) = false := by
  obtain ⟨m, i, hd, _⟩ := wordU_val hb h1 h2
  have : forder (some (wordU u z)) (some (wordU u z)) = some .eq := by
    show Ieee.double.order _ _ = _
    unfold Ieee.Format.order
    rw [hd]; exact order_self rfl
  unfold nanE fcmp
  simp only [this]
  rfl
theorem num_self {p : Fl} (h : nanE p = false) : fcmp .neq p p = false ∧ fcmp .eql p p = true := by
  refine ⟨h, ?_⟩
  unfold nanE at h
  unfold fcmp at h ⊢
  simp only at h ⊢
  cases hb : (forder p p == some Ordering.eq) with
  | true => rfl
  | false => unfold bne at h; rw [hb] at h; cases h
theorem told_num {p : Fl} (h : nanE p = false) : aggr_told p = p := by
  unfold aggr_told math_IsNaN
  rw [show fcmp .neq p p = false from h]; rfl
theorem told_nan {p : Fl} (h : nanE p = true) : nanE (aggr_told p) = true := by
  unfold aggr_told math_IsNaN
  rw [show fcmp .neq p p = true from h]
  simp only [cond_true]
  kernel_rfl
theorem told_beyond {c : BinOp} {o : Ordering} (hc : ∀ a b : Fl, fcmp c a b = true ↔ forder a b = some o) {y p : Fl} (h : fcmp c y p = false) : fcmp c y (aggr_told p) = false := by
  cases hn : nanE p with
  | false => rw [told_num hn]; exact h
  | true =>
    cases h3 : fcmp c y (aggr_told p) with
    | false => rfl
    | true => rw [hc, forder_nanr (told_nan hn)] at h3; cases h3
end Go.Proofs.YtkjkkimnjpodiaaGreatDoor

set_option linter.unusedVariables false
set_option linter.unusedSimpArgs false
set_option maxRecDepth 100000
namespace Go.Proofs.YtkjkkimnjpodiaaGreatDoor
open Go.GB
noncomputable def aggr_values_sum_l37_c (l12 : List Fl) : (Fl × Int) → Option ((Fl × Int) ⊕ (Fl)) := fun s24 =>
  bif (decide (s24.2 < (l12.length : Int))) then
  (Option.bind (ix l12 s24.2) fun (x40 : Fl) =>
    some (Sum.inl ((farith .add s24.1 x40), (IntKind.wrap .i64 (s24.2 + 1)))))
  else
  (some (Sum.inr s24.1))
theorem aggr_values_sum_l37_ev (l12 : List Fl) (s24 : Fl × Int) : OLe (aggr_values_sum_l37_c l12 s24) (aggr_values_sum_l37 l12 s24) := by
  unfold aggr_values_sum_l37_c aggr_values_sum_l37
  exact (OLe.cond (OLe.bind (OLe.refl _) (fun _ => (OLe.refl _))) (OLe.refl _))
noncomputable def aggr_values_sum_c (a0 : List Fl) (a1 : Fl) : Option Fl :=
  Option.bind (ix a0 0) fun (x1 : Fl) =>
  Option.bind (lx a0 1 (a0.length : Int)) fun (l12 : List Fl) =>
  Option.bind (loopF 1000000 (aggr_values_sum_l37_c l12) (x1, 0)) fun (r22 : Fl) =>
  some r22
theorem aggr_values_sum_ev (a0 : List Fl) (a1 : Fl) : OLe (aggr_values_sum_c a0 a1) (aggr_values_sum a0 a1) := by
  unfold aggr_values_sum_c aggr_values_sum
  exact (OLe.bind (OLe.refl _) (fun _ => (OLe.bind (OLe.refl _) (fun _ => (OLe.bind (OLe.loop (fun _ => aggr_values_sum_l37_ev _ _)) (fun _ => (OLe.refl _)))))))
noncomputable def aggr_values_avg_c (a0 : List Fl) (a1 : Fl) : Option Fl :=
  Option.bind (aggr_values_sum_c a0 a1) fun (y1 : Fl) =>
  some (farith .quo y1 (some (FloatKind.nearest .f64 (a0.length : Int)) : Fl))
theorem aggr_values_avg_ev (a0 : List Fl) (a1 : Fl) : OLe (aggr_values_avg_c a0 a1) (aggr_values_avg a0 a1) := by
  unfold aggr_values_avg_c aggr_values_avg
  exact (OLe.bind (aggr_values_sum_ev _ _) (fun _ => (OLe.refl _)))
noncomputable def aggr_values_min_l32_c (a0 : List Fl) : (Fl × Int) → Option ((Fl × Int) ⊕ (Fl)) := fun s19 =>
  bif (decide (s19.2 < (a0.length : Int))) then
  (Option.bind (ix a0 s19.2) fun (x35 : Fl) =>
    Option.bind (bif (fcmp .lss x35 s19.1) then
      (some true)
      else
      (some (math_IsNaN s19.1))) fun (j45 : Bool) =>
    Option.bind (bif j45 then
      (some x35)
      else
      (some s19.1)) fun (j51 : Fl) =>
    some (Sum.inl (j51, (IntKind.wrap .i64 (s19.2 + 1)))))
  else
  (some (Sum.inr s19.1))
theorem aggr_values_min_l32_ev (a0 : List Fl) (s19 : Fl × Int) : OLe (aggr_values_min_l32_c a0 s19) (aggr_values_min_l32 a0 s19) := by
  unfold aggr_values_min_l32_c aggr_values_min_l32
  exact (OLe.cond (OLe.bind (OLe.refl _) (fun _ => (OLe.bind (OLe.cond (OLe.refl _) (OLe.refl _)) (fun _ => (OLe.bind (OLe.cond (OLe.refl _) (OLe.refl _)) (fun _ => (OLe.refl _))))))) (OLe.refl _))
noncomputable def aggr_values_min_c (a0 : List Fl) (a1 : Fl) : Option Fl :=
  Option.bind (ix a0 0) fun (x1 : Fl) =>
  Option.bind (loopF 1000000 (aggr_values_min_l32_c a0) (x1, 0)) fun (r17 : Fl) =>
  some r17
theorem aggr_values_min_ev (a0 : List Fl) (a1 : Fl) : OLe (aggr_values_min_c a0 a1) (aggr_values_min a0 a1) := by
  unfold aggr_values_min_c aggr_values_min
  exact (OLe.bind (OLe.refl _) (fun _ => (OLe.bind (OLe.loop (fun _ => aggr_values_min_l32_ev _ _)) (fun _ => (OLe.refl _)))))
noncomputable def aggr_values_max_l32_c (a0 : List Fl) : (Fl × Int) → Option ((Fl × Int) ⊕ (Fl)) := fun s19 =>
  bif (decide (s19.2 < (a0.length : Int))) then
  (Option.bind (ix a0 s19.2) fun (x35 : Fl) =>
    Option.bind (bif (fcmp .gtr x35 s19.1) then
      (some true)
      else
      (some (math_IsNaN s19.1))) fun (j45 : Bool) =>
    Option.bind (bif j45 then
      (some x35)
      else
      (some s19.1)) fun (j51 : Fl) =>
    some (Sum.inl (j51, (IntKind.wrap .i64 (s19.2 + 1)))))
  else
  (some (Sum.inr s19.1))
theorem aggr_values_max_l32_ev (a0 : List Fl) (s19 : Fl × Int) : OLe (aggr_values_max_l32_c a0 s19) (aggr_values_max_l32 a0 s19) := by
  unfold aggr_values_max_l32_c aggr_values_max_l32
  exact (OLe.cond (OLe.bind (OLe.refl _) (fun _ => (OLe.bind (OLe.cond (OLe.refl _) (OLe.refl _)) (fun _ => (OLe.bind (OLe.cond (OLe.refl _) (OLe.refl _)) (fun _ => (OLe.refl _))))))) (OLe.refl _))
noncomputable def aggr_values_max_c (a0 : List Fl) (a1 : Fl) : Option Fl :=
  Option.bind (ix a0 0) fun (x1 : Fl) =>
  Option.bind (loopF 1000000 (aggr_values_max_l32_c a0) (x1, 0)) fun (r17 : Fl) =>
  some r17
theorem aggr_values_max_ev (a0 : List Fl) (a1 : Fl) : OLe (aggr_values_max_c a0 a1) (aggr_values_max a0 a1) := by
  unfold aggr_values_max_c aggr_values_max
  exact (OLe.bind (OLe.refl _) (fun _ => (OLe.bind (OLe.loop (fun _ => aggr_values_max_l32_ev _ _)) (fun _ => (OLe.refl _)))))
noncomputable def aggr_values_stdvar_l35_c (a0 : List Fl) (y1 : Fl) : ((List Fl) × Int) → Option (((List Fl) × Int) ⊕ ((List Fl))) := fun s18 =>
  bif (decide (s18.2 < (a0.length : Int))) then
  (Option.bind (ix a0 s18.2) fun (x38 : Fl) =>
    Option.bind (app s18.1 [(farith .mul (farith .sub x38 y1) (farith .sub x38 y1))]) fun (zs56 : List Fl) =>
    some (Sum.inl (zs56, (IntKind.wrap .i64 (s18.2 + 1)))))
  else
  (some (Sum.inr s18.1))
theorem aggr_values_stdvar_l35_ev (a0 : List Fl) (y1 : Fl) (s18 : (List Fl) × Int) : OLe (aggr_values_stdvar_l35_c a0 y1 s18) (aggr_values_stdvar_l35 a0 y1 s18) := by
  unfold aggr_values_stdvar_l35_c aggr_values_stdvar_l35
  exact (OLe.cond (OLe.bind (OLe.refl _) (fun _ => (OLe.bind (OLe.refl _) (fun _ => (OLe.refl _))))) (OLe.refl _))
noncomputable def aggr_values_stdvar_c (a0 : List Fl) (a1 : Fl) : Option Fl :=
  Option.bind (aggr_values_avg_c a0 a1) fun (y1 : Fl) =>
  Option.bind (loopF 1000000 (aggr_values_stdvar_l35_c a0 y1) ([], 0)) fun (r16 : (List Fl)) =>
  Option.bind (aggr_values_sum_c r16 a1) fun (y66 : Fl) =>
  some (farith .quo y66 (some (FloatKind.nearest .f64 (a0.length : Int)) : Fl))
theorem aggr_values_stdvar_ev (a0 : List Fl) (a1 : Fl) : OLe (aggr_values_stdvar_c a0 a1) (aggr_values_stdvar a0 a1) := by
  unfold aggr_values_stdvar_c aggr_values_stdvar
  exact (OLe.bind (aggr_values_avg_ev _ _) (fun _ => (OLe.bind (OLe.loop (fun _ => aggr_values_stdvar_l35_ev _ _ _)) (fun _ => (OLe.bind (aggr_values_sum_ev _ _) (fun _ => (OLe.refl _)))))))
noncomputable def aggr_values_stddev_c (a0 : List Fl) (a1 : Fl) : Option Fl :=
  Option.bind (aggr_values_stdvar_c a0 a1) fun (y1 : Fl) =>
  some (math_Sqrt y1)
theorem aggr_values_stddev_ev (a0 : List Fl) (a1 : Fl) : OLe (aggr_values_stddev_c a0 a1) (aggr_values_stddev a0 a1) := by
  unfold aggr_values_stddev_c aggr_values_stddev
  exact (OLe.bind (aggr_values_stdvar_ev _ _) (fun _ => (OLe.refl _)))
noncomputable def tabf_48_c : Nat → (List Fl) → Fl → Option Fl
  | 0, _, _ => none
  | 1, x0, x1 => aggr_values_sum_c x0 x1
  | 2, x0, x1 => aggr_values_avg_c x0 x1
  | 3, x0, x1 => aggr_values_min_c x0 x1
  | 4, x0, x1 => aggr_values_max_c x0 x1
  | 5, x0, x1 => (fun x0 x1 => some (aggr_values_count x0 x1)) x0 x1
  | 6, x0, x1 => (fun x0 x1 => some (aggr_values_group x0 x1)) x0 x1
  | 7, x0, x1 => aggr_values_stdvar_c x0 x1
  | 8, x0, x1 => aggr_values_stddev_c x0 x1
  | _ + 9, x0, x1 => none
theorem tabf_48_ev : ∀ (k : Nat) (x0 : List Fl) (x1 : Fl), OLe (tabf_48_c k x0 x1) (tabf_48 k x0 x1)
  | 0, x0, x1 => fun _ h => by cases h
  | 1, x0, x1 => aggr_values_sum_ev x0 x1
  | 2, x0, x1 => aggr_values_avg_ev x0 x1
  | 3, x0, x1 => aggr_values_min_ev x0 x1
  | 4, x0, x1 => aggr_values_max_ev x0 x1
  | 5, x0, x1 => OLe.refl _
  | 6, x0, x1 => OLe.refl _
  | 7, x0, x1 => aggr_values_stdvar_ev x0 x1
  | 8, x0, x1 => aggr_values_stddev_ev x0 x1
  | _ + 9, x0, x1 => OLe.refl _
noncomputable def aggr_Fold_c (a0 : ByteArray) (a1 : List Fl) (a2 : Fl) : Option (Fl × Int) :=
  bif ((aggr_fold a0) == 0) then
  (some ((some 0 : Fl), 60))
  else
  (bif ((a1.length : Int) == 0) then
    (some ((some 0 : Fl), 5))
    else
    (Option.bind (tabf_48_c (aggr_fold a0) a1 a2) fun (y4 : Fl) =>
      some ((aggr_told y4), 0)))
theorem aggr_Fold_ev (a0 : ByteArray) (a1 : List Fl) (a2 : Fl) : OLe (aggr_Fold_c a0 a1 a2) (aggr_Fold a0 a1 a2) := by
  unfold aggr_Fold_c aggr_Fold
  exact (OLe.cond (OLe.refl _) (OLe.cond (OLe.refl _) (OLe.bind (tabf_48_ev _ _ _) (fun _ => (OLe.refl _)))))
noncomputable def slices_Index_l17_c (a0 : List ByteArray) (a1 : ByteArray) : Int → Option ((Int) ⊕ ((Unit) ⊕ (Int))) := fun s7 =>
  bif (decide (s7 < (a0.length : Int))) then
  (Option.bind (ix a0 s7) fun (x20 : ByteArray) =>
    bif (a1.toList == x20.toList) then
    (some (Sum.inr (Sum.inr s7)))
    else
    (some (Sum.inl (IntKind.wrap .i64 (s7 + 1)))))
  else
  (some (Sum.inr (Sum.inl ())))
theorem slices_Index_l17_ev (a0 : List ByteArray) (a1 : ByteArray) (s7 : Int) : OLe (slices_Index_l17_c a0 a1 s7) (slices_Index_l17 a0 a1 s7) := by
  unfold slices_Index_l17_c slices_Index_l17
  exact (OLe.cond (OLe.bind (OLe.refl _) (fun _ => (OLe.cond (OLe.refl _) (OLe.refl _)))) (OLe.refl _))
noncomputable def slices_Index_c (a0 : List ByteArray) (a1 : ByteArray) : Option Int :=
  Option.bind (loopF 1000000 (slices_Index_l17_c a0 a1) 0) fun (r5 : (Unit) ⊕ (Int)) =>
  match r5 with
  | Sum.inl r13 => some (-1)
  | Sum.inr v29 => some v29
theorem slices_Index_ev (a0 : List ByteArray) (a1 : ByteArray) : OLe (slices_Index_c a0 a1) (slices_Index a0 a1) := by
  unfold slices_Index_c slices_Index
  exact (OLe.bind (OLe.loop (fun _ => slices_Index_l17_ev _ _ _)) (fun j => by cases j with | inl a => exact (OLe.refl _) | inr b => exact (OLe.refl _)))
noncomputable def slices_Contains_c (a0 : List ByteArray) (a1 : ByteArray) : Option Bool :=
  Option.bind (slices_Index_c a0 a1) fun (y1 : Int) =>
  some (decide (y1 ≥ 0))
theorem slices_Contains_ev (a0 : List ByteArray) (a1 : ByteArray) : OLe (slices_Contains_c a0 a1) (slices_Contains a0 a1) := by
  unfold slices_Contains_c slices_Contains
  exact (OLe.bind (slices_Index_ev _ _) (fun _ => (OLe.refl _)))
noncomputable def labels_named_l33_c (a2 : Bool) (l11 : List Int) : Int → Option ((Int) ⊕ ((Unit) ⊕ (Bool))) := fun s23 =>
  bif (decide (s23 < (l11.length : Int))) then
  (Option.bind (ix l11 s23) fun (x36 : Int) =>
    bif (((!(labels_letter x36)) && (!(labels_digit x36))) && (!(a2 && (x36 == 58)))) then
    (some (Sum.inr (Sum.inr false)))
    else
    (some (Sum.inl (IntKind.wrap .i64 (s23 + 1)))))
  else
  (some (Sum.inr (Sum.inl ())))
theorem labels_named_l33_ev (a2 : Bool) (l11 : List Int) (s23 : Int) : OLe (labels_named_l33_c a2 l11 s23) (labels_named_l33 a2 l11 s23) := by
  unfold labels_named_l33_c labels_named_l33
  exact (OLe.cond (OLe.bind (OLe.refl _) (fun _ => (OLe.cond (OLe.refl _) (OLe.refl _)))) (OLe.refl _))
noncomputable def labels_named_c (a0 : ByteArray) (a1 : Int) (a2 : Bool) : Option Bool :=
  Option.bind (bif (a0.toList == (⟨#[]⟩ : ByteArray).toList) then
    (some true)
    else
    (bif (decide ((a0.size : Int) > a1)) then
      (some true)
      else
      (Option.bind (bx a0 0) fun (c8 : Int) =>
        some (labels_digit c8)))) fun (j1 : Bool) =>
  bif j1 then
  (some false)
  else
  (Option.bind (sb a0) fun (l11 : List Int) =>
    Option.bind (loopF 1000000 (labels_named_l33_c a2 l11) 0) fun (r21 : (Unit) ⊕ (Bool)) =>
    match r21 with
    | Sum.inl r29 => some true
    | Sum.inr v54 => some v54)
theorem labels_named_ev (a0 : ByteArray) (a1 : Int) (a2 : Bool) : OLe (labels_named_c a0 a1 a2) (labels_named a0 a1 a2) := by
  unfold labels_named_c labels_named
  exact (OLe.bind (OLe.cond (OLe.refl _) (OLe.cond (OLe.refl _) (OLe.bind (OLe.refl _) (fun _ => (OLe.refl _))))) (fun _ => (OLe.cond (OLe.refl _) (OLe.bind (OLe.refl _) (fun _ => (OLe.bind (OLe.loop (fun _ => labels_named_l33_ev _ _ _)) (fun j => by cases j with | inl a => exact (OLe.refl _) | inr b => exact (OLe.refl _))))))))
noncomputable def labels_Name_c (a0 : ByteArray) : Option Bool :=
  Option.bind (labels_named_c a0 64 false) fun (y1 : Bool) =>
  some y1
theorem labels_Name_ev (a0 : ByteArray) : OLe (labels_Name_c a0) (labels_Name a0) := by
  unfold labels_Name_c labels_Name
  exact (OLe.bind (labels_named_ev _ _ _) (fun _ => (OLe.refl _)))
noncomputable def utf8_ValidString_c (a0 : ByteArray) : Option Bool := utf8_ValidString a0
theorem utf8_ValidString_ev (a0 : ByteArray) : OLe (utf8_ValidString_c a0) (utf8_ValidString a0) := OLe.refl _
noncomputable def labels_value_c (a0 : ByteArray) : Option Int :=
  bif (a0.toList == (⟨#[]⟩ : ByteArray).toList) then
  (some 41)
  else
  (bif (decide ((a0.size : Int) > 256)) then
    (some 4)
    else
    (Option.bind (utf8_ValidString_c a0) fun (y3 : Bool) =>
      bif (!y3) then
      (some 12)
      else
      (some 0)))
theorem labels_value_ev (a0 : ByteArray) : OLe (labels_value_c a0) (labels_value a0) := by
  unfold labels_value_c labels_value
  exact (OLe.cond (OLe.refl _) (OLe.cond (OLe.refl _) (OLe.bind (utf8_ValidString_ev _) (fun _ => (OLe.cond (OLe.refl _) (OLe.refl _))))))
noncomputable def labels_Right_l18_c (a0 : List S76) : Int → Option ((Int) ⊕ ((Unit) ⊕ (Int × Int))) := fun s8 =>
  bif (decide (s8 < (a0.length : Int))) then
  (Option.bind (ix a0 s8) fun (x21 : S76) =>
    Option.bind (labels_Name_c x21.f0) fun (y30 : Bool) =>
    bif (!y30) then
    (some (Sum.inr (Sum.inr (40, s8))))
    else
    (Option.bind (labels_value_c x21.f1) fun (y33 : Int) =>
      bif (y33 != 0) then
      (some (Sum.inr (Sum.inr (y33, s8))))
      else
      (Option.bind (bif (decide (s8 > 0)) then
          (Option.bind (ix a0 (IntKind.wrap .i64 (s8 - 1))) fun (x42 : S76) =>
            some ((Op.bytesLess x21.f0.toList x42.f0.toList) || (x21.f0.toList == x42.f0.toList)))
          else
          (some false)) fun (j36 : Bool) =>
        bif j36 then
        (some (Sum.inr (Sum.inr (3, s8))))
        else
        (some (Sum.inl (IntKind.wrap .i64 (s8 + 1)))))))
  else
  (some (Sum.inr (Sum.inl ())))
theorem labels_Right_l18_ev (a0 : List S76) (s8 : Int) : OLe (labels_Right_l18_c a0 s8) (labels_Right_l18 a0 s8) := by
  unfold labels_Right_l18_c labels_Right_l18
  exact (OLe.cond (OLe.bind (OLe.refl _) (fun _ => (OLe.bind (labels_Name_ev _) (fun _ => (OLe.cond (OLe.refl _) (OLe.bind (labels_value_ev _) (fun _ => (OLe.cond (OLe.refl _) (OLe.bind (OLe.cond (OLe.bind (OLe.refl _) (fun _ => (OLe.refl _))) (OLe.refl _)) (fun _ => (OLe.cond (OLe.refl _) (OLe.refl _)))))))))))) (OLe.refl _))
noncomputable def labels_Right_c (a0 : List S76) : Option (Int × Int) :=
  bif (decide ((a0.length : Int) > 16)) then
  (some (8, 0))
  else
  (Option.bind (loopF 1000000 (labels_Right_l18_c a0) 0) fun (r6 : (Unit) ⊕ (Int × Int)) =>
    match r6 with
    | Sum.inl r14 => some (0, 0)
    | Sum.inr v51 => some v51)
theorem labels_Right_ev (a0 : List S76) : OLe (labels_Right_c a0) (labels_Right a0) := by
  unfold labels_Right_c labels_Right
  exact (OLe.cond (OLe.refl _) (OLe.bind (OLe.loop (fun _ => labels_Right_l18_ev _ _)) (fun j => by cases j with | inl a => exact (OLe.refl _) | inr b => exact (OLe.refl _))))
noncomputable def slices_Clone_f42_c (a0 : List S76) : Option (List S76) :=
  Option.bind (app ([] : List S76) a0) fun (zs3 : List S76) =>
  some zs3
theorem slices_Clone_f42_ev (a0 : List S76) : OLe (slices_Clone_f42_c a0) (slices_Clone_f42 a0) := by
  unfold slices_Clone_f42_c slices_Clone_f42
  exact (OLe.bind (OLe.refl _) (fun _ => (OLe.refl _)))
noncomputable def slices_CompareFunc_l17_c (a0 : List S76) (a1 : List S76) (a2 : S76 → S76 → Option Int) : Int → Option ((Int) ⊕ ((Unit) ⊕ (Int))) := fun s7 =>
  bif (decide (s7 < (a0.length : Int))) then
  (Option.bind (ix a0 s7) fun (x20 : S76) =>
    bif (decide (s7 ≥ (a1.length : Int))) then
    (some (Sum.inr (Sum.inr 1)))
    else
    (Option.bind (ix a1 s7) fun (x30 : S76) =>
      Option.bind (a2 x20 x30) fun (y40 : Int) =>
      bif (y40 != 0) then
      (some (Sum.inr (Sum.inr y40)))
      else
      (some (Sum.inl (IntKind.wrap .i64 (s7 + 1))))))
  else
  (some (Sum.inr (Sum.inl ())))
theorem slices_CompareFunc_l17_ev (a0 : List S76) (a1 : List S76) {a2 a2' : S76 → S76 → Option Int} (ha2 : ∀ x0 x1, OLe (a2 x0 x1) (a2' x0 x1)) (s7 : Int) : OLe (slices_CompareFunc_l17_c a0 a1 a2 s7) (slices_CompareFunc_l17 a0 a1 a2' s7) := by
  unfold slices_CompareFunc_l17_c slices_CompareFunc_l17
  exact (OLe.cond (OLe.bind (OLe.refl _) (fun _ => (OLe.cond (OLe.refl _) (OLe.bind (OLe.refl _) (fun _ => (OLe.bind (ha2 _ _) (fun _ => (OLe.cond (OLe.refl _) (OLe.refl _))))))))) (OLe.refl _))
noncomputable def slices_CompareFunc_c (a0 : List S76) (a1 : List S76) (a2 : S76 → S76 → Option Int) : Option Int :=
  Option.bind (loopF 1000000 (slices_CompareFunc_l17_c a0 a1 a2) 0) fun (r5 : (Unit) ⊕ (Int)) =>
  match r5 with
  | Sum.inl r13 => bif (decide ((a0.length : Int) < (a1.length : Int))) then
    (some (-1))
    else
    (some 0)
  | Sum.inr v43 => some v43
theorem slices_CompareFunc_ev (a0 : List S76) (a1 : List S76) {a2 a2' : S76 → S76 → Option Int} (ha2 : ∀ x0 x1, OLe (a2 x0 x1) (a2' x0 x1)) : OLe (slices_CompareFunc_c a0 a1 a2) (slices_CompareFunc a0 a1 a2') := by
  unfold slices_CompareFunc_c slices_CompareFunc
  exact (OLe.bind (OLe.loop (fun _ => slices_CompareFunc_l17_ev _ _ ha2 _)) (fun j => by cases j with | inl a => exact (OLe.cond (OLe.refl _) (OLe.refl _)) | inr b => exact (OLe.refl _)))
noncomputable def labels_Compare_c (a0 : List S76) (a1 : List S76) : Option Int :=
  Option.bind (slices_CompareFunc_c a0 a1 (fun x0 x1 => some (labels_Compare_1 x0 x1))) fun (y1 : Int) =>
  some y1
theorem labels_Compare_ev (a0 : List S76) (a1 : List S76) : OLe (labels_Compare_c a0 a1) (labels_Compare a0 a1) := by
  unfold labels_Compare_c labels_Compare
  exact (OLe.bind (slices_CompareFunc_ev _ _ (fun _ _ => OLe.refl _)) (fun _ => (OLe.refl _)))
noncomputable def vec_Vector_1_c (a0 : S38) (a1 : S38) : Option Int :=
  Option.bind (labels_Compare_c a0.f0 a1.f0) fun (y3 : Int) =>
  some y3
theorem vec_Vector_1_ev (a0 : S38) (a1 : S38) : OLe (vec_Vector_1_c a0 a1) (vec_Vector_1 a0 a1) := by
  unfold vec_Vector_1_c vec_Vector_1
  exact (OLe.bind (labels_Compare_ev _ _) (fun _ => (OLe.refl _)))
noncomputable def vec_Vector_l18_c (a0 : List S38) : Int → Option ((Int) ⊕ ((Unit) ⊕ ((List S38) × Int))) := fun s8 =>
  bif (decide (s8 < (a0.length : Int))) then
  (Option.bind (ix a0 s8) fun (x21 : S38) =>
    Option.bind (labels_Right_c x21.f0) fun (y35 : Int × Int) =>
    bif (y35.1 != 0) then
    (some (Sum.inr (Sum.inr ([], 41))))
    else
    (some (Sum.inl (IntKind.wrap .i64 (s8 + 1)))))
  else
  (some (Sum.inr (Sum.inl ())))
theorem vec_Vector_l18_ev (a0 : List S38) (s8 : Int) : OLe (vec_Vector_l18_c a0 s8) (vec_Vector_l18 a0 s8) := by
  unfold vec_Vector_l18_c vec_Vector_l18
  exact (OLe.cond (OLe.bind (OLe.refl _) (fun _ => (OLe.bind (labels_Right_ev _) (fun _ => (OLe.cond (OLe.refl _) (OLe.refl _)))))) (OLe.refl _))
noncomputable def vec_Vector_l65_c (a0 : List S38) : ((List S38) × Int) → Option (((List S38) × Int) ⊕ ((List S38))) := fun s48 =>
  bif (decide (s48.2 < (a0.length : Int))) then
  (Option.bind (ix a0 s48.2) fun (x68 : S38) =>
    Option.bind (slices_Clone_f42_c x68.f0) fun (y82 : (List S76)) =>
    Option.bind (app s48.1 [(⟨y82, x68.f1⟩ : S38)]) fun (zs99 : List S38) =>
    some (Sum.inl (zs99, (IntKind.wrap .i64 (s48.2 + 1)))))
  else
  (some (Sum.inr s48.1))
theorem vec_Vector_l65_ev (a0 : List S38) (s48 : (List S38) × Int) : OLe (vec_Vector_l65_c a0 s48) (vec_Vector_l65 a0 s48) := by
  unfold vec_Vector_l65_c vec_Vector_l65
  exact (OLe.cond (OLe.bind (OLe.refl _) (fun _ => (OLe.bind (slices_Clone_f42_ev _) (fun _ => (OLe.bind (OLe.refl _) (fun _ => (OLe.refl _))))))) (OLe.refl _))
noncomputable def vec_Vector_l131_c (zs105 : List S38) : Int → Option ((Int) ⊕ ((Unit) ⊕ ((List S38) × Int))) := fun s121 =>
  bif (decide (s121 < (zs105.length : Int))) then
  (Option.bind (ix zs105 (IntKind.wrap .i64 (s121 - 1))) fun (x134 : S38) =>
    Option.bind (ix zs105 s121) fun (x148 : S38) =>
    Option.bind (labels_Compare_c x134.f0 x148.f0) fun (y162 : Int) =>
    bif (y162 == 0) then
    (some (Sum.inr (Sum.inr ([], 150))))
    else
    (some (Sum.inl (IntKind.wrap .i64 (s121 + 1)))))
  else
  (some (Sum.inr (Sum.inl ())))
theorem vec_Vector_l131_ev (zs105 : List S38) (s121 : Int) : OLe (vec_Vector_l131_c zs105 s121) (vec_Vector_l131 zs105 s121) := by
  unfold vec_Vector_l131_c vec_Vector_l131
  exact (OLe.cond (OLe.bind (OLe.refl _) (fun _ => (OLe.bind (OLe.refl _) (fun _ => (OLe.bind (labels_Compare_ev _ _) (fun _ => (OLe.cond (OLe.refl _) (OLe.refl _)))))))) (OLe.refl _))
noncomputable def vec_Vector_c (a0 : List S38) : Option ((List S38) × Int) :=
  bif (decide ((a0.length : Int) > 1000)) then
  (some ([], 7))
  else
  (Option.bind (loopF 1000000 (vec_Vector_l18_c a0) 0) fun (r6 : (Unit) ⊕ ((List S38) × Int)) =>
    match r6 with
    | Sum.inl r14 => Option.bind (loopF 1000000 (vec_Vector_l65_c a0) ([], 0)) fun (r46 : (List S38)) =>
      sortBindC vec_Vector_1_c r46 fun (zs105 : List S38) =>
      Option.bind (loopF 1000000 (vec_Vector_l131_c zs105) 1) fun (r119 : (Unit) ⊕ ((List S38) × Int)) =>
      match r119 with
      | Sum.inl r127 => some (zs105, 0)
      | Sum.inr v165 => some v165
    | Sum.inr v166 => some v166)
theorem vec_Vector_ev (a0 : List S38) : OLe (vec_Vector_c a0) (vec_Vector a0) := by
  unfold vec_Vector_c vec_Vector
  exact (OLe.cond (OLe.refl _) (OLe.bind (OLe.loop (fun _ => vec_Vector_l18_ev _ _)) (fun j => by cases j with | inl a => exact (OLe.bind (OLe.loop (fun _ => vec_Vector_l65_ev _ _)) (fun _ => (OLe.sort (fun _ _ => vec_Vector_1_ev _ _) (fun _ => (OLe.bind (OLe.loop (fun _ => vec_Vector_l131_ev _ _)) (fun j => by cases j with | inl a => exact (OLe.refl _) | inr b => exact (OLe.refl _))))))) | inr b => exact (OLe.refl _))))
noncomputable def aggr_wrong_l17_c (a0 : List ByteArray) : Int → Option ((Int) ⊕ ((Unit) ⊕ (Int))) := fun s7 =>
  bif (decide (s7 < (a0.length : Int))) then
  (Option.bind (ix a0 s7) fun (x20 : ByteArray) =>
    Option.bind (labels_Name_c x20) fun (y28 : Bool) =>
    bif (!y28) then
    (some (Sum.inr (Sum.inr 40)))
    else
    (some (Sum.inl (IntKind.wrap .i64 (s7 + 1)))))
  else
  (some (Sum.inr (Sum.inl ())))
theorem aggr_wrong_l17_ev (a0 : List ByteArray) (s7 : Int) : OLe (aggr_wrong_l17_c a0 s7) (aggr_wrong_l17 a0 s7) := by
  unfold aggr_wrong_l17_c aggr_wrong_l17
  exact (OLe.cond (OLe.bind (OLe.refl _) (fun _ => (OLe.bind (labels_Name_ev _) (fun _ => (OLe.cond (OLe.refl _) (OLe.refl _)))))) (OLe.refl _))
noncomputable def aggr_wrong_c (a0 : List ByteArray) : Option Int :=
  Option.bind (loopF 1000000 (aggr_wrong_l17_c a0) 0) fun (r5 : (Unit) ⊕ (Int)) =>
  match r5 with
  | Sum.inl r13 => some 0
  | Sum.inr v31 => some v31
theorem aggr_wrong_ev (a0 : List ByteArray) : OLe (aggr_wrong_c a0) (aggr_wrong a0) := by
  unfold aggr_wrong_c aggr_wrong
  exact (OLe.bind (OLe.loop (fun _ => aggr_wrong_l17_ev _ _)) (fun j => by cases j with | inl a => exact (OLe.refl _) | inr b => exact (OLe.refl _)))
noncomputable def slices_Clone_f76_c (a0 : List ByteArray) : Option (List ByteArray) :=
  Option.bind (app ([] : List ByteArray) a0) fun (zs3 : List ByteArray) =>
  some zs3
theorem slices_Clone_f76_ev (a0 : List ByteArray) : OLe (slices_Clone_f76_c a0) (slices_Clone_f76 a0) := by
  unfold slices_Clone_f76_c slices_Clone_f76
  exact (OLe.bind (OLe.refl _) (fun _ => (OLe.refl _)))
noncomputable def labels_right_c (a0 : List S76) : Option Int :=
  Option.bind (labels_Right_c a0) fun (y1 : Int × Int) =>
  some y1.1
theorem labels_right_ev (a0 : List S76) : OLe (labels_right_c a0) (labels_right a0) := by
  unfold labels_right_c labels_right
  exact (OLe.bind (labels_Right_ev _) (fun _ => (OLe.refl _)))
noncomputable def labels_pick_l28_c (a0 : List S76) (a1 : Bool) (a2 : List ByteArray) : ((List S76) × Int) → Option (((List S76) × Int) ⊕ ((List S76))) := fun s11 =>
  bif (decide (s11.2 < (a0.length : Int))) then
  (Option.bind (ix a0 s11.2) fun (x31 : S76) =>
    Option.bind (slices_Contains_c a2 x31.f0) fun (y40 : Bool) =>
    Option.bind (bif (y40 == a1) then
      (Option.bind (app s11.1 [x31]) fun (zs56 : List S76) =>
        some zs56)
      else
      (some s11.1)) fun (j42 : (List S76)) =>
    some (Sum.inl (j42, (IntKind.wrap .i64 (s11.2 + 1)))))
  else
  (some (Sum.inr s11.1))
theorem labels_pick_l28_ev (a0 : List S76) (a1 : Bool) (a2 : List ByteArray) (s11 : (List S76) × Int) : OLe (labels_pick_l28_c a0 a1 a2 s11) (labels_pick_l28 a0 a1 a2 s11) := by
  unfold labels_pick_l28_c labels_pick_l28
  exact (OLe.cond (OLe.bind (OLe.refl _) (fun _ => (OLe.bind (slices_Contains_ev _ _) (fun _ => (OLe.bind (OLe.cond (OLe.bind (OLe.refl _) (fun _ => (OLe.refl _))) (OLe.refl _)) (fun _ => (OLe.refl _))))))) (OLe.refl _))
noncomputable def labels_pick_c (a0 : List S76) (a1 : Bool) (a2 : List ByteArray) : Option (List S76) :=
  Option.bind (loopF 1000000 (labels_pick_l28_c a0 a1 a2) ([], 0)) fun (r9 : (List S76)) =>
  some r9
theorem labels_pick_ev (a0 : List S76) (a1 : Bool) (a2 : List ByteArray) : OLe (labels_pick_c a0 a1 a2) (labels_pick a0 a1 a2) := by
  unfold labels_pick_c labels_pick
  exact (OLe.bind (OLe.loop (fun _ => labels_pick_l28_ev _ _ _ _)) (fun _ => (OLe.refl _)))
noncomputable def labels_Without_c (a0 : List S76) (a1 : List ByteArray) : Option ((List S76) × Int) :=
  Option.bind (labels_right_c a0) fun (y1 : Int) =>
  bif (y1 != 0) then
  (some ([], y1))
  else
  (Option.bind (labels_pick_c a0 false a1) fun (y4 : (List S76)) =>
    some (y4, 0))
theorem labels_Without_ev (a0 : List S76) (a1 : List ByteArray) : OLe (labels_Without_c a0 a1) (labels_Without a0 a1) := by
  unfold labels_Without_c labels_Without
  exact (OLe.bind (labels_right_ev _) (fun _ => (OLe.cond (OLe.refl _) (OLe.bind (labels_pick_ev _ _ _) (fun _ => (OLe.refl _))))))
noncomputable def labels_Keep_c (a0 : List S76) (a1 : List ByteArray) : Option ((List S76) × Int) :=
  Option.bind (labels_right_c a0) fun (y1 : Int) =>
  bif (y1 != 0) then
  (some ([], y1))
  else
  (Option.bind (labels_pick_c a0 true a1) fun (y4 : (List S76)) =>
    some (y4, 0))
theorem labels_Keep_ev (a0 : List S76) (a1 : List ByteArray) : OLe (labels_Keep_c a0 a1) (labels_Keep a0 a1) := by
  unfold labels_Keep_c labels_Keep
  exact (OLe.bind (labels_right_ev _) (fun _ => (OLe.cond (OLe.refl _) (OLe.bind (labels_pick_ev _ _ _) (fun _ => (OLe.refl _))))))
noncomputable def aggr_group_c (a0 : List S76) (a1 : List ByteArray) (a2 : Bool) : Option (List S76) :=
  bif a2 then
  (Option.bind (slices_Clone_f76_c a1) fun (y2 : (List ByteArray)) =>
    Option.bind (app y2 [(⟨#[95, 95, 110, 97, 109, 101, 95, 95]⟩ : ByteArray)]) fun (zs15 : List ByteArray) =>
    Option.bind (labels_Without_c a0 zs15) fun (y25 : (List S76) × Int) =>
    some y25.1)
  else
  (Option.bind (labels_Keep_c a0 a1) fun (y34 : (List S76) × Int) =>
    some y34.1)
theorem aggr_group_ev (a0 : List S76) (a1 : List ByteArray) (a2 : Bool) : OLe (aggr_group_c a0 a1 a2) (aggr_group a0 a1 a2) := by
  unfold aggr_group_c aggr_group
  exact (OLe.cond (OLe.bind (slices_Clone_f76_ev _) (fun _ => (OLe.bind (OLe.refl _) (fun _ => (OLe.bind (labels_Without_ev _ _) (fun _ => (OLe.refl _))))))) (OLe.bind (labels_Keep_ev _ _) (fun _ => (OLe.refl _))))
noncomputable def vint_joined_c (a0 : List Int) (a1 : List Int) : Option (List Int) :=
  Option.bind (mkrow (0 : Int) 0 (IntKind.wrap .i64 ((a0.length : Int) + (a1.length : Int)))) fun (xs1 : List Int) =>
  Option.bind (app xs1 a0) fun (zs6 : List Int) =>
  Option.bind (app zs6 a1) fun (zs12 : List Int) =>
  some zs12
theorem vint_joined_ev (a0 : List Int) (a1 : List Int) : OLe (vint_joined_c a0 a1) (vint_joined a0 a1) := by
  unfold vint_joined_c vint_joined
  exact (OLe.bind (OLe.refl _) (fun _ => (OLe.bind (OLe.refl _) (fun _ => (OLe.bind (OLe.refl _) (fun _ => (OLe.refl _)))))))
noncomputable def vint_PutU_l28_c : (Int × (List Int)) → Option ((Int × (List Int)) ⊕ (Int × (List Int))) := fun s11 =>
  bif (decide (s11.1 ≥ 128)) then
  (Option.bind (app s11.2 [(bitOr .u8 (IntKind.wrap .u8 s11.1) 128)]) fun (zs35 : List Int) =>
    some (Sum.inl ((shr .u64 s11.1 7), zs35)))
  else
  (some (Sum.inr (s11.1, s11.2)))
theorem vint_PutU_l28_ev  (s11 : Int × (List Int)) : OLe (vint_PutU_l28_c  s11) (vint_PutU_l28  s11) := by
  unfold vint_PutU_l28_c vint_PutU_l28
  exact (OLe.cond (OLe.bind (OLe.refl _) (fun _ => (OLe.refl _))) (OLe.refl _))
noncomputable def vint_PutU_c (a0 : List Int) (a1 : Int) : Option (List Int) :=
  Option.bind (loopF 1000000 vint_PutU_l28_c (a1, [])) fun (r9 : Int × (List Int)) =>
  Option.bind (app r9.2 [(IntKind.wrap .u8 r9.1)]) fun (zs45 : List Int) =>
  Option.bind (vint_joined_c a0 zs45) fun (y55 : (List Int)) =>
  some y55
theorem vint_PutU_ev (a0 : List Int) (a1 : Int) : OLe (vint_PutU_c a0 a1) (vint_PutU a0 a1) := by
  unfold vint_PutU_c vint_PutU
  exact (OLe.bind (OLe.loop (fun _ => vint_PutU_l28_ev  _)) (fun _ => (OLe.bind (OLe.refl _) (fun _ => (OLe.bind (vint_joined_ev _ _) (fun _ => (OLe.refl _)))))))
noncomputable def vint_PutText_c (a0 : List Int) (a1 : ByteArray) : Option (List Int) :=
  Option.bind (vint_PutU_c a0 (IntKind.wrap .u64 (a1.size : Int))) fun (y1 : (List Int)) =>
  Option.bind (sb a1) fun (l10 : List Int) =>
  Option.bind (vint_joined_c y1 l10) fun (y21 : (List Int)) =>
  some y21
theorem vint_PutText_ev (a0 : List Int) (a1 : ByteArray) : OLe (vint_PutText_c a0 a1) (vint_PutText a0 a1) := by
  unfold vint_PutText_c vint_PutText
  exact (OLe.bind (vint_PutU_ev _ _) (fun _ => (OLe.bind (OLe.refl _) (fun _ => (OLe.bind (vint_joined_ev _ _) (fun _ => (OLe.refl _)))))))
noncomputable def labels_Put_l40_c (a1 : List S76) : ((List Int) × Int) → Option (((List Int) × Int) ⊕ ((List Int))) := fun s23 =>
  bif (decide (s23.2 < (a1.length : Int))) then
  (Option.bind (ix a1 s23.2) fun (x43 : S76) =>
    Option.bind (vint_PutText_c s23.1 x43.f0) fun (y56 : (List Int)) =>
    Option.bind (vint_PutText_c y56 x43.f1) fun (y69 : (List Int)) =>
    some (Sum.inl (y69, (IntKind.wrap .i64 (s23.2 + 1)))))
  else
  (some (Sum.inr s23.1))
theorem labels_Put_l40_ev (a1 : List S76) (s23 : (List Int) × Int) : OLe (labels_Put_l40_c a1 s23) (labels_Put_l40 a1 s23) := by
  unfold labels_Put_l40_c labels_Put_l40
  exact (OLe.cond (OLe.bind (OLe.refl _) (fun _ => (OLe.bind (vint_PutText_ev _ _) (fun _ => (OLe.bind (vint_PutText_ev _ _) (fun _ => (OLe.refl _))))))) (OLe.refl _))
noncomputable def labels_Put_c (a0 : List Int) (a1 : List S76) : Option ((List Int) × Int) :=
  Option.bind (labels_right_c a1) fun (y1 : Int) =>
  bif (y1 != 0) then
  (some ([], y1))
  else
  (Option.bind (vint_PutU_c a0 (IntKind.wrap .u64 (a1.length : Int))) fun (y4 : (List Int)) =>
    Option.bind (loopF 1000000 (labels_Put_l40_c a1) (y4, 0)) fun (r21 : (List Int)) =>
    some (r21, 0))
theorem labels_Put_ev (a0 : List Int) (a1 : List S76) : OLe (labels_Put_c a0 a1) (labels_Put a0 a1) := by
  unfold labels_Put_c labels_Put
  exact (OLe.bind (labels_right_ev _) (fun _ => (OLe.cond (OLe.refl _) (OLe.bind (vint_PutU_ev _ _) (fun _ => (OLe.bind (OLe.loop (fun _ => labels_Put_l40_ev _ _)) (fun _ => (OLe.refl _))))))))
noncomputable def aggr_Groups_1_c (a0 : Int) (a1 : Int) (a2 : List (List S76)) : Option Int :=
  Option.bind (ix a2 a0) fun (x1 : List S76) =>
  Option.bind (ix a2 a1) fun (x12 : List S76) =>
  Option.bind (labels_Compare_c x1 x12) fun (y23 : Int) =>
  some y23
theorem aggr_Groups_1_ev (a0 : Int) (a1 : Int) (a2 : List (List S76)) : OLe (aggr_Groups_1_c a0 a1 a2) (aggr_Groups_1 a0 a1 a2) := by
  unfold aggr_Groups_1_c aggr_Groups_1
  exact (OLe.bind (OLe.refl _) (fun _ => (OLe.bind (OLe.refl _) (fun _ => (OLe.bind (labels_Compare_ev _ _) (fun _ => (OLe.refl _)))))))
noncomputable def aggr_Groups_l61_c (a1 : List ByteArray) (a2 : Bool) (y1 : (List S38) × Int) : ((List (List S76)) × (List (ByteArray × Int)) × (List (List S38)) × Int) → Option (((List (List S76)) × (List (ByteArray × Int)) × (List (List S38)) × Int) ⊕ ((List (List S38)) × (List (List S76)))) := fun s34 =>
  bif (decide (s34.2.2.2 < (y1.1.length : Int))) then
  (Option.bind (ix y1.1 s34.2.2.2) fun (x64 : S38) =>
    Option.bind (aggr_group_c x64.f0 a1 a2) fun (y79 : (List S76)) =>
    Option.bind (labels_Put_c [] y79) fun (y92 : (List Int) × Int) =>
    Option.bind (bif (!((mget Ky.str s34.2.1 (ofBytes y92.1)).isSome)) then
      (Option.bind (app s34.1 [y79]) fun (zs123 : List (List S76)) =>
        Option.bind (app s34.2.2.1 [([] : List S38)]) fun (zs133 : List (List S38)) =>
        some ((mput Ky.str s34.2.1 (ofBytes y92.1) (s34.2.2.1.length : Int)), zs133, (s34.2.2.1.length : Int), zs123))
      else
      (some (s34.2.1, s34.2.2.1, ((mget Ky.str s34.2.1 (ofBytes y92.1)).getD 0), s34.1))) fun (j101 : (List (ByteArray × Int)) × (List (List S38)) × Int × (List (List S76))) =>
    Option.bind (ix j101.2.1 j101.2.2.1) fun (x140 : List S38) =>
    Option.bind (app x140 [x64]) fun (zs160 : List S38) =>
    some (Sum.inl (j101.2.2.2, j101.1, (lset j101.2.1 j101.2.2.1 zs160), (IntKind.wrap .i64 (s34.2.2.2 + 1)))))
  else
  (some (Sum.inr (s34.2.2.1, s34.1)))
theorem aggr_Groups_l61_ev (a1 : List ByteArray) (a2 : Bool) (y1 : (List S38) × Int) (s34 : (List (List S76)) × (List (ByteArray × Int)) × (List (List S38)) × Int) : OLe (aggr_Groups_l61_c a1 a2 y1 s34) (aggr_Groups_l61 a1 a2 y1 s34) := by
  unfold aggr_Groups_l61_c aggr_Groups_l61
  exact (OLe.cond (OLe.bind (OLe.refl _) (fun _ => (OLe.bind (aggr_group_ev _ _ _) (fun _ => (OLe.bind (labels_Put_ev _ _) (fun _ => (OLe.bind (OLe.cond (OLe.bind (OLe.refl _) (fun _ => (OLe.bind (OLe.refl _) (fun _ => (OLe.refl _))))) (OLe.refl _)) (fun _ => (OLe.bind (OLe.refl _) (fun _ => (OLe.bind (OLe.refl _) (fun _ => (OLe.refl _))))))))))))) (OLe.refl _))
noncomputable def aggr_Groups_l198_c (xs169 : List Int) : ((List Int) × Int) → Option (((List Int) × Int) ⊕ ((List Int))) := fun s183 =>
  bif (decide (s183.2 < (xs169.length : Int))) then
  (Option.bind (ix s183.1 s183.2) fun (x201 : Int) =>
    some (Sum.inl ((lset s183.1 s183.2 s183.2), (IntKind.wrap .i64 (s183.2 + 1)))))
  else
  (some (Sum.inr s183.1))
theorem aggr_Groups_l198_ev (xs169 : List Int) (s183 : (List Int) × Int) : OLe (aggr_Groups_l198_c xs169 s183) (aggr_Groups_l198 xs169 s183) := by
  unfold aggr_Groups_l198_c aggr_Groups_l198
  exact (OLe.cond (OLe.bind (OLe.refl _) (fun _ => (OLe.refl _))) (OLe.refl _))
noncomputable def aggr_Groups_l270_c (r32 : (List (List S38)) × (List (List S76))) (zs218 : List Int) : ((List (List S38)) × Int) → Option (((List (List S38)) × Int) ⊕ ((List (List S38)))) := fun s253 =>
  bif (decide (s253.2 < (zs218.length : Int))) then
  (Option.bind (ix zs218 s253.2) fun (x273 : Int) =>
    Option.bind (ix r32.1 x273) fun (x282 : List S38) =>
    Option.bind (app s253.1 [x282]) fun (zs297 : List (List S38)) =>
    some (Sum.inl (zs297, (IntKind.wrap .i64 (s253.2 + 1)))))
  else
  (some (Sum.inr s253.1))
theorem aggr_Groups_l270_ev (r32 : (List (List S38)) × (List (List S76))) (zs218 : List Int) (s253 : (List (List S38)) × Int) : OLe (aggr_Groups_l270_c r32 zs218 s253) (aggr_Groups_l270 r32 zs218 s253) := by
  unfold aggr_Groups_l270_c aggr_Groups_l270
  exact (OLe.cond (OLe.bind (OLe.refl _) (fun _ => (OLe.bind (OLe.refl _) (fun _ => (OLe.bind (OLe.refl _) (fun _ => (OLe.refl _))))))) (OLe.refl _))
noncomputable def aggr_Groups_c (a0 : List S38) (a1 : List ByteArray) (a2 : Bool) : Option ((List (List S38)) × Int) :=
  Option.bind (vec_Vector_c a0) fun (y1 : (List S38) × Int) =>
  bif (y1.2 != 0) then
  (some ([], y1.2))
  else
  (Option.bind (aggr_wrong_c a1) fun (y11 : Int) =>
    bif (y11 != 0) then
    (some ([], y11))
    else
    (Option.bind (loopF 1000000 (aggr_Groups_l61_c a1 a2 y1) ([], ([] : List (ByteArray × Int)), [], 0)) fun (r32 : (List (List S38)) × (List (List S76))) =>
      Option.bind (mkrow (0 : Int) (r32.1.length : Int) (r32.1.length : Int)) fun (xs169 : List Int) =>
      Option.bind (loopF 1000000 (aggr_Groups_l198_c xs169) (xs169, 0)) fun (r181 : (List Int)) =>
      sortBindC (fun x0 x1 => aggr_Groups_1_c x0 x1 r32.2) r181 fun (zs218 : List Int) =>
      Option.bind (loopF 1000000 (aggr_Groups_l270_c r32 zs218) ([], 0)) fun (r251 : (List (List S38))) =>
      some (r251, 0)))
theorem aggr_Groups_ev (a0 : List S38) (a1 : List ByteArray) (a2 : Bool) : OLe (aggr_Groups_c a0 a1 a2) (aggr_Groups a0 a1 a2) := by
  unfold aggr_Groups_c aggr_Groups
  exact (OLe.bind (vec_Vector_ev _) (fun _ => (OLe.cond (OLe.refl _) (OLe.bind (aggr_wrong_ev _) (fun _ => (OLe.cond (OLe.refl _) (OLe.bind (OLe.loop (fun _ => aggr_Groups_l61_ev _ _ _ _)) (fun _ => (OLe.bind (OLe.refl _) (fun _ => (OLe.bind (OLe.loop (fun _ => aggr_Groups_l198_ev _ _)) (fun _ => (OLe.sort (fun _ _ => aggr_Groups_1_ev _ _ _) (fun _ => (OLe.bind (OLe.loop (fun _ => aggr_Groups_l270_ev _ _ _)) (fun _ => (OLe.refl _)))))))))))))))))
noncomputable def aggr_Number_l96_c (x51 : List S38) : ((List Fl) × Int) → Option (((List Fl) × Int) ⊕ ((List Fl))) := fun s79 =>
  bif (decide (s79.2 < (x51.length : Int))) then
  (Option.bind (ix x51 s79.2) fun (x99 : S38) =>
    Option.bind (app s79.1 [x99.f1]) fun (zs117 : List Fl) =>
    some (Sum.inl (zs117, (IntKind.wrap .i64 (s79.2 + 1)))))
  else
  (some (Sum.inr s79.1))
theorem aggr_Number_l96_ev (x51 : List S38) (s79 : (List Fl) × Int) : OLe (aggr_Number_l96_c x51 s79) (aggr_Number_l96 x51 s79) := by
  unfold aggr_Number_l96_c aggr_Number_l96
  exact (OLe.cond (OLe.bind (OLe.refl _) (fun _ => (OLe.bind (OLe.refl _) (fun _ => (OLe.refl _))))) (OLe.refl _))
noncomputable def aggr_Number_l48_c (a0 : ByteArray) (a2 : List ByteArray) (a3 : Bool) (a4 : Fl) (y11 : (List (List S38)) × Int) : ((List S38) × Int) → Option (((List S38) × Int) ⊕ ((List S38))) := fun s31 =>
  bif (decide (s31.2 < (y11.1.length : Int))) then
  (Option.bind (ix y11.1 s31.2) fun (x51 : List S38) =>
    bif ((aggr_fold a0) == 0) then
    (none)
    else
    (Option.bind (loopF 1000000 (aggr_Number_l96_c x51) ([], 0)) fun (r77 : (List Fl)) =>
      Option.bind (ix x51 0) fun (x123 : S38) =>
      Option.bind (aggr_group_c x123.f0 a2 a3) fun (y136 : (List S76)) =>
      Option.bind (tabf_48_c (aggr_fold a0) r77 a4) fun (y152 : Fl) =>
      Option.bind (app s31.1 [(⟨y136, (aggr_told y152)⟩ : S38)]) fun (zs171 : List S38) =>
      some (Sum.inl (zs171, (IntKind.wrap .i64 (s31.2 + 1))))))
  else
  (some (Sum.inr s31.1))
theorem aggr_Number_l48_ev (a0 : ByteArray) (a2 : List ByteArray) (a3 : Bool) (a4 : Fl) (y11 : (List (List S38)) × Int) (s31 : (List S38) × Int) : OLe (aggr_Number_l48_c a0 a2 a3 a4 y11 s31) (aggr_Number_l48 a0 a2 a3 a4 y11 s31) := by
  unfold aggr_Number_l48_c aggr_Number_l48
  exact (OLe.cond (OLe.bind (OLe.refl _) (fun _ => (OLe.cond (OLe.refl _) (OLe.bind (OLe.loop (fun _ => aggr_Number_l96_ev _ _)) (fun _ => (OLe.bind (OLe.refl _) (fun _ => (OLe.bind (aggr_group_ev _ _ _) (fun _ => (OLe.bind (tabf_48_ev _ _ _) (fun _ => (OLe.bind (OLe.refl _) (fun _ => (OLe.refl _)))))))))))))) (OLe.refl _))
noncomputable def aggr_Number_c (a0 : ByteArray) (a1 : List S38) (a2 : List ByteArray) (a3 : Bool) (a4 : Fl) : Option ((List S38) × Int) :=
  Option.bind (slices_Contains_c aggr_Words a0) fun (y8 : Bool) =>
  bif (!y8) then
  (some ([], 60))
  else
  (Option.bind (aggr_Groups_c a1 a2 a3) fun (y11 : (List (List S38)) × Int) =>
    bif (y11.2 != 0) then
    (some ([], y11.2))
    else
    (Option.bind (loopF 1000000 (aggr_Number_l48_c a0 a2 a3 a4 y11) ([], 0)) fun (r29 : (List S38)) =>
      Option.bind (vec_Vector_c r29) fun (y181 : (List S38) × Int) =>
      some (y181.1, y181.2)))
theorem aggr_Number_ev (a0 : ByteArray) (a1 : List S38) (a2 : List ByteArray) (a3 : Bool) (a4 : Fl) : OLe (aggr_Number_c a0 a1 a2 a3 a4) (aggr_Number a0 a1 a2 a3 a4) := by
  unfold aggr_Number_c aggr_Number
  exact (OLe.bind (slices_Contains_ev _ _) (fun _ => (OLe.cond (OLe.refl _) (OLe.bind (aggr_Groups_ev _ _ _) (fun _ => (OLe.cond (OLe.refl _) (OLe.bind (OLe.loop (fun _ => aggr_Number_l48_ev _ _ _ _ _ _)) (fun _ => (OLe.bind (vec_Vector_ev _) (fun _ => (OLe.refl _)))))))))))
noncomputable def tocsinlaw16_awake_c : Option Bool :=
  Option.bind (aggr_Number_c (⟨#[115, 117, 109]⟩ : ByteArray) [(⟨[(⟨(⟨#[97]⟩ : ByteArray), (⟨#[49]⟩ : ByteArray)⟩ : S76), (⟨(⟨#[98]⟩ : ByteArray), (⟨#[120]⟩ : ByteArray)⟩ : S76)], (some 4611686018427387904 : Fl)⟩ : S38), (⟨[(⟨(⟨#[97]⟩ : ByteArray), (⟨#[49]⟩ : ByteArray)⟩ : S76), (⟨(⟨#[98]⟩ : ByteArray), (⟨#[121]⟩ : ByteArray)⟩ : S76)], (some 4616189618054758400 : Fl)⟩ : S38)] [(⟨#[97]⟩ : ByteArray)] false (some 0 : Fl)) fun (y27 : (List S38) × Int) =>
  Option.bind (aggr_Fold_c (⟨#[97, 118, 103]⟩ : ByteArray) [(some 4611686018427387904 : Fl), (some 4616189618054758400 : Fl)] (some 0 : Fl)) fun (y44 : Fl × Int) =>
  Option.bind (bif (y27.2 == 0) then
    (bif ((y27.1.length : Int) == 1) then
      (Option.bind (ix y27.1 0) fun (x58 : S38) =>
        bif (fcmp .eql x58.f1 (some 4618441417868443648 : Fl)) then
        (Option.bind (ix y27.1 0) fun (x73 : S38) =>
          bif ((x73.f0.length : Int) == 1) then
          (bif (y44.2 == 0) then
            (some (fcmp .eql y44.1 (some 4613937818241073152 : Fl)))
            else
            (some false))
          else
          (some false))
        else
        (some false))
      else
      (some false))
    else
    (some false)) fun (j51 : Bool) =>
  some j51
theorem tocsinlaw16_awake_ev  : OLe (tocsinlaw16_awake_c ) (tocsinlaw16_awake ) := by
  unfold tocsinlaw16_awake_c tocsinlaw16_awake
  exact (OLe.bind (aggr_Number_ev _ _ _ _ _) (fun _ => (OLe.bind (aggr_Fold_ev _ _ _) (fun _ => (OLe.bind (OLe.cond (OLe.cond (OLe.bind (OLe.refl _) (fun _ => (OLe.cond (OLe.bind (OLe.refl _) (fun _ => (OLe.cond (OLe.cond (OLe.refl _) (OLe.refl _)) (OLe.refl _)))) (OLe.refl _)))) (OLe.refl _)) (OLe.refl _)) (fun _ => (OLe.refl _)))))))
end Go.Proofs.YtkjkkimnjpodiaaGreatDoor

/- What must come of fixed calls comes of them: run out by the kernel. -/
set_option maxRecDepth 100000
namespace Go.Proofs.YtkjkkimnjpodiaaGreatDoor
theorem awake_true : tocsinlaw16_awake = some true := tocsinlaw16_awake_ev _ (by kernel_rfl)
end Go.Proofs.YtkjkkimnjpodiaaGreatDoor

set_option linter.unusedVariables false
set_option linter.unusedSimpArgs false
set_option maxRecDepth 100000
namespace Go.Proofs.YtkjkkimnjpodiaaGreatDoor
open Go.GB Go.Lib
noncomputable def leastF : List Fl → Fl × Int
  | [] => (some 0, 5)
  | x :: l => (aggr_told (mostE .lss (x :: l) x), 0)
noncomputable def greatestF : List Fl → Fl × Int
  | [] => (some 0, 5)
  | x :: l => (aggr_told (mostE .gtr (x :: l) x), 0)
theorem Fold_min (l : List Fl) (hl : l.length < 2147483648) : aggr_Fold (⟨#[109, 105, 110]⟩ : ByteArray) l (some 0 : Fl) = some (leastF l) := by
  unfold aggr_Fold
  rw [show aggr_fold (⟨#[109, 105, 110]⟩ : ByteArray) = 3 by kernel_rfl]
  cases l with
  | nil => rfl
  | cons x l =>
    rw [show (((x :: l).length : Int) == 0) = false from beq_eq_false_iff_ne.2 (by simp; omega)]
    rw [show ((3 : Nat) == 0) = false from rfl]
    simp only [cond_false, tabf_48]
    rw [min_eq hl]; rfl
theorem Fold_max (l : List Fl) (hl : l.length < 2147483648) : aggr_Fold (⟨#[109, 97, 120]⟩ : ByteArray) l (some 0 : Fl) = some (greatestF l) := by
  unfold aggr_Fold
  rw [show aggr_fold (⟨#[109, 97, 120]⟩ : ByteArray) = 4 by kernel_rfl]
  cases l with
  | nil => rfl
  | cons x l =>
    rw [show (((x :: l).length : Int) == 0) = false from beq_eq_false_iff_ne.2 (by simp; omega)]
    rw [show ((4 : Nat) == 0) = false from rfl]
    simp only [cond_false, tabf_48]
    rw [max_eq hl]; rfl
theorem bounds_loop {l : List Fl} (hl : l.length < 2147483648) : loopO (tocsinlaw16_AggrBounds_l41 l (leastF l) (greatestF l)) 0 = some (.inl ()) := by
  rw [up_all (n := l.length) (fun _ => true) (fun i hi => ?_) ?_]
  · rw [show (List.range l.length).all (fun _ => true) = true by simp]; rfl
  · unfold tocsinlaw16_AggrBounds_l41
    rw [show decide ((l.length : Int) < (l.length : Int)) = false from decide_eq_false (by omega)]; rfl
  · unfold tocsinlaw16_AggrBounds_l41
    rw [show decide ((i : Int) < (l.length : Int)) = true from decide_eq_true (by omega)]
    simp only [cond_true, ix_nat, List.getElem?_eq_getElem hi, Option.bind_some, wrap_up (show i < 4294967296 by omega)]
    have hm : l[i] ∈ l := List.getElem_mem hi
    generalize l[i] = y at hm ⊢
    cases l with
    | nil => cases hm
    | cons x l =>
      have e1 : fcmp .lss y (leastF (x :: l)).1 = false := told_beyond (fun a b => flss) (most_inv (fun a b => flss) (by decide) (x :: l) [] x (fun y hy => by cases hy) (fun _ y hy => by cases hy) y (by simpa using hm))
      have e2 : fcmp .gtr y (greatestF (x :: l)).1 = false := told_beyond (fun a b => fgtr) (most_inv (fun a b => fgtr) (by decide) (x :: l) [] x (fun y hy => by cases hy) (fun _ y hy => by cases hy) y (by simpa using hm))
      rw [e1, e2]; rfl
/-! ### Whole numbers -/
theorem sum_le {B : Nat} : ∀ (l : List Int), (∀ x ∈ l, x.natAbs ≤ B) → l.sum.natAbs ≤ l.length * B
  | [], _ => by simp
  | x :: l, h => by
    have h1 := sum_le l fun y hy => h y (by simp [hy])
    have h2 := h x (by simp)
    rw [List.sum_cons, List.length_cons, Nat.add_mul, Nat.one_mul]
    omega
theorem whole_loop {l : List Int} (hl : l.length ≤ 100000) (hB : ∀ x ∈ l, x.natAbs ≤ 2147483648) :
    loopO (tocsinlaw16_AggrBounds_l102 l) (0, [], 0) = some (l.sum, l.map fun x => (some (wordU 0 x) : Fl)) := by
  have := up_inv (body := tocsinlaw16_AggrBounds_l102 l) (fun k => ((l.take k).sum, (l.take k).map (fun x => (some (wordU 0 x) : Fl)), (k : Int))) (n := l.length) (r := (l.sum, l.map fun x => (some (wordU 0 x) : Fl))) (fun k hk => by
      unfold tocsinlaw16_AggrBounds_l102
      rw [show decide ((((l.take k).sum, (l.take k).map (fun x => (some (wordU 0 x) : Fl)), (k : Int)) : Int × List Fl × Int).2.2 < (l.length : Int)) = true from decide_eq_true (by show (k : Int) < _; omega)]
      simp only [cond_true, ix_nat, List.getElem?_eq_getElem hk, Option.bind_some, wrap_up (show k < 4294967296 by omega)]
      have hx := hB _ (List.getElem_mem hk)
      have hs := sum_le (l.take k) fun y hy => hB y (List.mem_of_mem_take hy)
      have hk2 : (l.take k).length * 2147483648 ≤ 100000 * 2147483648 := Nat.mul_le_mul_right _ (by rw [List.length_take]; omega)
      rw [app_eq (by simp; omega), wrap64 (x := l[k]) (by omega) (by omega), wrap64 (by omega) (by omega)]
      rw [List.take_add_one, List.getElem?_eq_getElem hk, List.sum_append, List.map_append]
      simp only [Option.bind_some, Option.toList_some, List.sum_cons, List.sum_nil, Int.add_zero, List.map_cons, List.map_nil]
      rfl)
    (by
      unfold tocsinlaw16_AggrBounds_l102
      rw [show decide ((((l.take l.length).sum, (l.take l.length).map (fun x => (some (wordU 0 x) : Fl)), (l.length : Int)) : Int × List Fl × Int).2.2 < (l.length : Int)) = false from decide_eq_false (by show ¬ (l.length : Int) < _; omega), List.take_length]; rfl) 0 (by omega)
  rw [List.take_zero] at this
  exact this
theorem Fold_sum {l : List Int} (hl : l.length ≤ 100000) (hB : ∀ x ∈ l, x.natAbs ≤ 2147483648) (h0 : l ≠ []) :
    aggr_Fold (⟨#[115, 117, 109]⟩ : ByteArray) (l.map fun x => (some (wordU 0 x) : Fl)) (some 0 : Fl) = some (some (wordU 0 l.sum), 0) ∧ nanE (some (wordU 0 l.sum)) = false := by
  have hs := sum_le l hB
  have hk2 : l.length * 2147483648 ≤ 100000 * 2147483648 := Nat.mul_le_mul_right _ hl
  have hn : nanE (some (wordU 0 l.sum)) = false := word_num (by omega) (by omega) (by omega)
  refine ⟨?_, hn⟩
  unfold aggr_Fold
  rw [show aggr_fold (⟨#[115, 117, 109]⟩ : ByteArray) = 1 by kernel_rfl]
  rw [show ((1 : Nat) == 0) = false from rfl]
  cases l with
  | nil => exact absurd rfl h0
  | cons x l =>
    rw [show ((((x :: l).map fun x => (some (wordU 0 x) : Fl)).length : Int) == 0) = false from beq_eq_false_iff_ne.2 (by simp; omega)]
    simp only [cond_false, tabf_48]
    have hx := hB x (by simp)
    have hk3 : (l.length + 1) * 2147483648 ≤ 100000 * 2147483648 := hk2
    rw [sum_eq _ (by simp at hl ⊢; omega)]
    have hw := sum_words (u := 0) (by omega) (by omega) 2147483648 l x (fun y hy => hB y (by simp [hy])) (by omega)
    rw [List.map_cons]
    rw [show ∀ (x : Fl) (l : List Fl), sumE (x :: l) = some (l.foldl (farith .add) x) from fun _ _ => rfl, hw]
    simp only [Option.bind_some]
    rw [show x + l.sum = (x :: l).sum from (List.sum_cons).symm, told_num hn]
/-! ### Equal numbers -/
def shareB (n : Nat) : Bool := Ieee.double.div (wordU (-1) (7 * (n + 1 : Nat))) (FloatKind.nearest .f64 ((n + 1 : Nat) : Int)) == some 4615063718147915776
theorem share_0 : (List.range' 0 100).all shareB = true := by kernel_rfl
theorem share_1 : (List.range' 100 100).all shareB = true := by kernel_rfl
theorem share_2 : (List.range' 200 100).all shareB = true := by kernel_rfl
theorem share_3 : (List.range' 300 100).all shareB = true := by kernel_rfl
theorem share_4 : (List.range' 400 100).all shareB = true := by kernel_rfl
theorem share_5 : (List.range' 500 100).all shareB = true := by kernel_rfl
theorem share_6 : (List.range' 600 100).all shareB = true := by kernel_rfl
theorem share_7 : (List.range' 700 100).all shareB = true := by kernel_rfl
theorem share_8 : (List.range' 800 100).all shareB = true := by kernel_rfl
theorem share_9 : (List.range' 900 100).all shareB = true := by kernel_rfl
theorem share_all {n : Nat} (h : n < 1000) : shareB n = true := by
  have key : ∀ a : Nat, (List.range' a 100).all shareB = true → a ≤ n → n < a + 100 → shareB n = true := fun a ha h1 h2 => List.all_eq_true.1 ha n (List.mem_range'_1.2 ⟨h1, h2⟩)
  by_cases h0 : n < 100
  · exact key _ share_0 (by omega) (by omega)
  by_cases h1 : n < 200
  · exact key _ share_1 (by omega) (by omega)
  by_cases h2 : n < 300
  · exact key _ share_2 (by omega) (by omega)
  by_cases h3 : n < 400
  · exact key _ share_3 (by omega) (by omega)
  by_cases h4 : n < 500
  · exact key _ share_4 (by omega) (by omega)
  by_cases h5 : n < 600
  · exact key _ share_5 (by omega) (by omega)
  by_cases h6 : n < 700
  · exact key _ share_6 (by omega) (by omega)
  by_cases h7 : n < 800
  · exact key _ share_7 (by omega) (by omega)
  by_cases h8 : n < 900
  · exact key _ share_8 (by omega) (by omega)
  exact key _ share_9 (by omega) (by omega)
theorem same_loop {a : Int} {N : Nat} (hN : IntKind.wrap .i64 (1 + (Int.tmod (IntKind.wrap .i64 ((Int.tmod a 1000) + 1000)) 1000)) = (N : Int)) (h : N ≤ 1000) :
    loopO (tocsinlaw16_AggrBounds_l175 a) ([], 0) = some (List.replicate N (some 4615063718147915776 : Fl)) := by
  have := up_inv (body := tocsinlaw16_AggrBounds_l175 a) (fun k => (List.replicate k (some 4615063718147915776 : Fl), (k : Int))) (n := N) (r := List.replicate N (some 4615063718147915776 : Fl)) (fun k hk => by
      unfold tocsinlaw16_AggrBounds_l175
      rw [hN]
      rw [show decide (((List.replicate k (some 4615063718147915776 : Fl), (k : Int)) : List Fl × Int).2 < (N : Int)) = true from decide_eq_true (by show (k : Int) < _; omega)]
      simp only [cond_true, wrap_up (show k < 4294967296 by omega)]
      rw [app_eq (by simp; omega), List.replicate_succ']; rfl)
    (by
      unfold tocsinlaw16_AggrBounds_l175
      rw [hN]
      rw [show decide (((List.replicate N (some 4615063718147915776 : Fl), (N : Int)) : List Fl × Int).2 < (N : Int)) = false from decide_eq_false (by show ¬ (N : Int) < _; omega)]; rfl) 0 (by omega)
  exact this
theorem quo_div (a b : Nat) : farith .quo (some a) (some b) = Ieee.double.div a b := rfl
theorem Fold_avg {N : Nat} (h : N ≤ 1000) (h0 : N ≠ 0) :
    aggr_Fold (⟨#[97, 118, 103]⟩ : ByteArray) (List.replicate N (some 4615063718147915776 : Fl)) (some 0 : Fl) = some (some 4615063718147915776, 0) := by
  unfold aggr_Fold
  rw [show aggr_fold (⟨#[97, 118, 103]⟩ : ByteArray) = 2 by kernel_rfl]
  rw [show ((2 : Nat) == 0) = false from rfl]
  rw [List.length_replicate, show ((N : Int) == 0) = false from beq_eq_false_iff_ne.2 (by omega)]
  simp only [cond_false, tabf_48]
  unfold aggr_values_avg
  rw [sum_eq _ (by rw [List.length_replicate]; omega), List.length_replicate]
  obtain ⟨n, rfl⟩ : ∃ n, N = n + 1 := ⟨N - 1, by omega⟩
  have e7 : (some 4615063718147915776 : Fl) = some (wordU (-1) 7) := by kernel_rfl
  have hw := sum_words (u := -1) (by omega) (by omega) 7 (List.replicate n 7) 7 (fun y hy => by rw [List.eq_of_mem_replicate hy]; decide) (by rw [List.length_replicate]; show 7 + (n + 1) * 7 < _; omega)
  have hsum : (7 : Int) + (List.replicate n (7 : Int)).sum = 7 * (n + 1 : Nat) := by
    have : (List.replicate n (7 : Int)).sum = 7 * n := by
      clear hw h h0
      induction n with
      | zero => rfl
      | succ n ih => rw [List.replicate_succ, List.sum_cons, ih]; omega
    rw [this]; omega
  rw [List.map_replicate, hsum] at hw
  have e : sumE (List.replicate (n + 1) (some 4615063718147915776 : Fl)) = some (some (wordU (-1) (7 * (n + 1 : Nat)))) := by
    rw [e7, List.replicate_succ]
    rw [show ∀ (x : Fl) (l : List Fl), sumE (x :: l) = some (l.foldl (farith .add) x) from fun _ _ => rfl, hw]
  rw [e]
  simp only [Option.bind_some]
  have hd := share_all (n := n) (by omega)
  have hq : farith .quo (some (wordU (-1) (7 * (n + 1 : Nat)))) (some (FloatKind.nearest .f64 ((n + 1 : Nat) : Int))) = some 4615063718147915776 := by
    unfold shareB at hd
    rw [quo_div]
    exact beq_iff_eq.1 hd
  rw [hq, told_num (by kernel_rfl)]
theorem tocsinlaw16_AggrBounds_true {I : Imm} {c0 c1 c2 : List Value} {n0 n1 n2 : Nat} (a0 : List Fl) (a1 : List Int) (a2 : Int) (h0 : (Kd.sl Kd.flt).R I a0 c0) (h1 : (Kd.sl (Kd.int .i32)).R I a1 c1) (h2 : (Kd.int .i64).R I a2 c2)
    (w0 : wSl wFlt a0 n0) (w1 : wSl (wInt .i32) a1 n1) (w2 : wInt .i64 a2 n2) (hn : n0 + n1 + n2 ≤ 1048576) : tocsinlaw16_AggrBounds a0 a1 a2 = some true := by
  have l0 := w0.len
  have l1 := w1.len
  unfold tocsinlaw16_AggrBounds
  rw [Fold_min a0 (by omega), Fold_max a0 (by omega)]
  simp only [Option.bind_some]
  by_cases hz : a0 = []
  · subst hz
    simp [leastF, greatestF, awake_true]
  · rw [show ((a0.length : Int) == 0) = false from beq_eq_false_iff_ne.2 (by cases a0 <;> simp at hz ⊢; omega)]
    simp only [cond_false, bounds_loop (show a0.length < 2147483648 by omega), Option.bind_some]
    have hB : ∀ x ∈ a1, x.natAbs ≤ 2147483648 := fun x hx => by
      obtain ⟨a, ⟨q1, q2⟩, _⟩ := w1.mem hx
      have e1 : IntKind.min .i32 = -2147483648 := by decide
      have e2 : IntKind.max .i32 = 2147483647 := by decide
      omega
    obtain ⟨w, hw, hwl, hwB⟩ : ∃ w : List Int, (bif (decide ((a1.length : Int) > 100000)) then (Option.bind (lx a1 0 100000) fun (l71 : List Int) => some l71) else (some a1)) = some w ∧ w.length ≤ 100000 ∧ ∀ x ∈ w, x.natAbs ≤ 2147483648 := by
      by_cases h : a1.length > 100000
      · refine ⟨a1.take 100000, ?_, by rw [List.length_take]; omega, fun x hx => hB x (List.mem_of_mem_take hx)⟩
        rw [show decide ((a1.length : Int) > 100000) = true from decide_eq_true (by omega)]
        simp only [cond_true]
        unfold lx
        rw [if_pos ⟨by omega, by omega, by omega⟩]
        rfl
      · refine ⟨a1, ?_, by omega, hB⟩
        rw [show decide ((a1.length : Int) > 100000) = false from decide_eq_false (by omega)]; rfl
    rw [hw]
    simp only [Option.bind_some, whole_loop hwl hwB]
    have hsum : ((bif (decide (((w.map fun x => (some (wordU 0 x) : Fl)).length : Int) > 0)) then
        (Option.bind (aggr_Fold (⟨#[115, 117, 109]⟩ : ByteArray) (w.map fun x => (some (wordU 0 x) : Fl)) (some 0 : Fl)) fun (y134 : Fl × Int) =>
          Option.bind (bif (y134.2 != 0) then
            (some true)
            else
            (some (fcmp .neq y134.1 (some (FloatKind.nearest .f64 w.sum) : Fl)))) fun (j141 : Bool) =>
          bif j141 then
          (some (Sum.inr false))
          else
          (some (Sum.inl ())))
        else
        (some (Sum.inl ())) : Option ((Unit) ⊕ (Bool)))) = some (.inl ()) := by
      by_cases h : w = []
      · subst h; rfl
      · rw [show (decide (((w.map fun x => (some (wordU 0 x) : Fl)).length : Int) > 0)) = true from decide_eq_true (by rw [List.length_map]; cases w with | nil => exact absurd rfl h | cons x w => simp)]
        obtain ⟨f1, f2⟩ := Fold_sum hwl hwB h
        simp only [cond_true, f1, Option.bind_some, bne_self_eq_false, cond_false]
        rw [show (some (FloatKind.nearest .f64 w.sum) : Fl) = some (wordU 0 w.sum) from rfl, (num_self f2).1]
        rfl
    rw [hsum]
    simp only [Option.bind_some]
    obtain ⟨N, hN, hN1, hN2⟩ : ∃ N : Nat, IntKind.wrap .i64 (1 + (Int.tmod (IntKind.wrap .i64 ((Int.tmod a2 1000) + 1000)) 1000)) = (N : Int) ∧ N ≤ 1000 ∧ N ≠ 0 := by
      have t1 : (Int.tmod a2 1000).natAbs < 1000 := by rw [Int.natAbs_tmod]; exact Nat.mod_lt _ (by decide)
      rw [wrap64 (x := Int.tmod a2 1000 + 1000) (by omega) (by omega)]
      generalize Int.tmod a2 1000 = y at t1
      have t2 : Int.tmod (y + 1000) 1000 = (((y + 1000).toNat % 1000 : Nat) : Int) := by
        obtain ⟨k, hk⟩ : ∃ k : Nat, y + 1000 = k := ⟨(y + 1000).toNat, by omega⟩
        rw [hk]
        rfl
      have t3 : (y + 1000).toNat % 1000 < 1000 := Nat.mod_lt _ (by decide)
      rw [t2, wrap64 (by omega) (by omega)]
      exact ⟨1 + (y + 1000).toNat % 1000, by omega, by omega, by omega⟩
    rw [same_loop hN hN1]
    simp only [Option.bind_some, Fold_avg hN1 hN2]
    rw [(num_self (p := (some 4615063718147915776 : Fl)) (by kernel_rfl)).2]
    simp [awake_true]
end Go.Proofs.YtkjkkimnjpodiaaGreatDoor
