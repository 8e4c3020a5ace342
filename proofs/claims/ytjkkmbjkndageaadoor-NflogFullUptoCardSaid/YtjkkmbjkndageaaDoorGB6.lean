/- Rules over slices: append, conversions of bytes, slices of slices; strings gone through rune by rune; division; scopes. -/
import Derived.Test.YtjkkmbjkndageaaDoorGB5
set_option linter.unusedVariables false
set_option linter.unusedSimpArgs false
namespace Go.GB

/-! ### 1. Slices that can be read, whoever owns them -/
structure RdS {α : Type} (d : Kd α) (I : Imm) (L : Own) (A : Option Addr) (xs : List α) : Prop where
  rd : ∀ W, Holds I L W → ∃ l : List Value, l.length = xs.length * d.n ∧ RowAt d I xs (fun j => l[j]?) ∧ (∀ c ∈ l, c.oneCell' = true) ∧
    (xs ≠ [] → ∃ a, A = some a ∧ ∀ j v, l[j]? = some v → W.cell? (a.add j) = some v)
theorem RdS.nil {α : Type} (d : Kd α) (I : Imm) (L : Own) (A : Option Addr) : RdS d I L A [] :=
  ⟨fun W _ => ⟨[], by simp, ⟨fun i x h => by simp at h⟩, by simp, fun h => absurd rfl h⟩⟩
theorem row_list {α : Type} {d : Kd α} {I : Imm} (a : Addr) (W : World) : ∀ (xs : List α) (o : Nat), (∀ i x, xs[i]? = some x → ∃ cs, d.R I x cs ∧ ∀ j v, cs[j]? = some v → W.cell? (a.add ((o + i) * d.n + j)) = some v) →
    ∃ l : List Value, l.length = xs.length * d.n ∧ RowAt d I xs (fun j => l[j]?) ∧ (∀ c ∈ l, c.oneCell' = true) ∧ ∀ j v, l[j]? = some v → W.cell? (a.add (o * d.n + j)) = some v := by
  intro xs
  induction xs with
  | nil => intro o _; exact ⟨[], by simp, ⟨fun i x h => by simp at h⟩, by simp, fun j v h => by simp at h⟩
  | cons x xs ih =>
    intro o h
    obtain ⟨cs, hR, hc⟩ := h 0 x rfl
    obtain ⟨l, hl, hrow, hone, hcell⟩ := ih (o + 1) (fun i y hy => by
      obtain ⟨cs, h1, h2⟩ := h (i + 1) y (by simpa using hy)
      exact ⟨cs, h1, fun j v hj => by have := h2 j v hj; rwa [show o + (i + 1) = o + 1 + i from by omega] at this⟩)
    have hcs : cs.length = d.n := d.len hR
    refine ⟨cs ++ l, by rw [List.length_append, hl, hcs, List.length_cons, Nat.add_mul, Nat.one_mul]; omega, ⟨fun i y hy => ?_⟩, fun c hc' => ?_, fun j v hj => ?_⟩
    · cases i with
      | zero =>
        simp only [List.getElem?_cons_zero, Option.some.injEq] at hy
        subst hy
        refine ⟨cs, hR, fun j v hj => ?_⟩
        have := (List.getElem?_eq_some_iff.1 hj).1
        simp only [Nat.zero_mul, Nat.zero_add]
        rw [List.getElem?_append_left (by omega)]; exact hj
      | succ i =>
        obtain ⟨q, h1, h2⟩ := hrow.at_ i y (by simpa using hy)
        refine ⟨q, h1, fun j v hj => ?_⟩
        have := h2 j v hj
        show (cs ++ l)[(i + 1) * d.n + j]? = _
        rw [List.getElem?_append_right (by rw [hcs, Nat.add_mul, Nat.one_mul]; omega), hcs, show (i + 1) * d.n + j - d.n = i * d.n + j from by rw [Nat.add_mul, Nat.one_mul]; omega]
        exact this
    · rcases List.mem_append.1 hc' with hc' | hc'
      · exact d.one hR c hc'
      · exact hone c hc'
    · by_cases hj' : j < cs.length
      · rw [List.getElem?_append_left hj'] at hj
        have := hc j v hj
        rwa [Nat.add_zero] at this
      · rw [List.getElem?_append_right (by omega)] at hj
        have := hcell _ v hj
        rwa [hcs, show (o + 1) * d.n + (j - d.n) = o * d.n + j from by rw [Nat.add_mul, Nat.one_mul]; omega] at this
theorem RepS.rd {α : Type} {d : Kd α} {I : Imm} {A : Option Addr} {c : Nat} {xs : List α} (h : RepS d I A c xs) (L : Own) : RdS d I L A xs := by
  refine ⟨fun W hW => ?_⟩
  cases xs with
  | nil => exact (RdS.nil d I L A).rd W hW
  | cons x xs =>
    obtain ⟨a, _, rfl, _, _⟩ := h.at_ 0 x rfl
    obtain ⟨l, h1, h2, h3, h4⟩ := row_list (d := d) (I := I) a W (x :: xs) 0 (fun i y hy => by
      obtain ⟨a', cs, ha, hR, hr⟩ := h.at_ i y hy
      cases ha
      exact ⟨cs, hR, fun j v hj => by rw [Nat.zero_add, ← add_add]; exact hW.cell (hr j v hj)⟩)
    exact ⟨l, h1, h2, h3, fun _ => ⟨a, rfl, fun j v hj => by have := h4 j v hj; simpa using this⟩⟩
theorem OwnS.rd {α : Type} {d : Kd α} {e : TypeId} {I : Imm} {A : Option Addr} {c : Nat} {xs : List α} {C L : Own} (h : OwnS d e I A c xs C) (hU : Upd L C C L) : RdS d I L A xs := by
  refine ⟨fun W hW => ?_⟩
  rcases h with ⟨rfl, _, _⟩ | ⟨g, cells, fz, rfl, rfl, _, h4, h5, h6, _⟩
  · exact (RdS.nil d I L A).rd W hW
  · obtain ⟨R, h1, _⟩ := hW.upd hU
    have hg : W.heap[g]? = some (.cells cells e fz) := h1.mem (by simp)
    have hcell : ∀ j, W.cell? ((⟨g, 0, none⟩ : Addr).add j) = cells[j]? := fun j => by
      have hadd : (⟨g, 0, none⟩ : Addr).add j = ⟨g, j, none⟩ := by unfold Addr.add; split <;> simp_all
      rw [hadd]; simp [World.cell?, hg]
    obtain ⟨l, h1, h2, h3, h4⟩ := row_list (d := d) (I := I) ⟨g, 0, none⟩ W xs 0 (fun i y hy => by
      obtain ⟨cs, hR, hr⟩ := h6.at_ i y hy
      exact ⟨cs, hR, fun j v hj => by rw [Nat.zero_add, hcell]; exact hr j v hj⟩)
    exact ⟨l, h1, h2, h3, fun _ => ⟨_, rfl, fun j v hj => by have := h4 j v hj; simpa using this⟩⟩

section
variable {P : Program} {ops : Array Oper} {k N : Nat} {K : KV} {I : Imm} {L : Own} {T : TPost}

/-- What can be appended: a slice that can be read, a string. -/
def SrcOk (P : Program) {α : Type} (d : Kd α) (I : Imm) (L : Own) (tx : TypeId) (x : Value) (ys : List α) : Prop :=
  ∀ W, Holds I L W → ∃ news, Src P d.n tx x ys.length news W ∧ RowAt d I ys (fun j => news[j]?)
theorem SrcOk.slice {α : Type} {d : Kd α} {tx e : TypeId} {n : Nat} {A : Option Addr} {c : Nat} {ys : List α} (h : RdS d I L A ys) (ht : sliceElem P tx = some (e, n)) : SrcOk P d I L tx (.slice A ys.length c) ys := by
  intro W hW
  obtain ⟨l, h1, h2, h3, h4⟩ := h.rd W hW
  refine ⟨l, ?_, h2⟩
  by_cases hy : ys = []
  · subst hy
    have : l = [] := List.length_eq_zero_iff.1 (by rw [h1]; simp)
    subst this
    cases A with
    | none => exact Src.ofNil W (sliceElem_spec ht).1 c
    | some a => exact Src.ofSlice W (sliceElem_spec ht).1 a 0 c [] (by simp) (fun j v h => by simp at h) (by simp)
  · obtain ⟨a, rfl, h5⟩ := h4 hy
    exact Src.ofSlice W (sliceElem_spec ht).1 a ys.length c l h1 h5 h3
def bytesOf (s : ByteArray) : List Int := s.data.toList.map fun b => (b.toNat : Int)
theorem bytesOf_length (s : ByteArray) : (bytesOf s).length = s.size := by rw [bytesOf, List.length_map, Array.length_toList]; rfl
theorem SrcOk.str {tx : TypeId} {s : ByteArray} (ht : P.underlying tx = some .string) : SrcOk P (Kd.int .u8) I L tx (.string s) (bytesOf s) := by
  intro W hW
  refine ⟨byteCells s, by rw [bytesOf_length]; exact Src.ofString W ht s, ⟨fun i x hx => ⟨[.int .u8 x], rfl, fun j v hj => ?_⟩⟩⟩
  have hj0 : j = 0 := by have := (List.getElem?_eq_some_iff.1 hj).1; simpa using this
  subst hj0
  simp only [List.getElem?_cons_zero, Option.some.injEq] at hj
  subst hj
  show (byteCells s)[i * 1 + 0]? = _
  rw [Nat.mul_one, Nat.add_zero]
  unfold bytesOf at hx
  rw [List.getElem?_map] at hx
  unfold byteCells
  rw [List.getElem?_map]
  cases hb : s.data.toList[i]? with
  | none => rw [hb] at hx; cases hx
  | some b => rw [hb] at hx; simp only [Option.map_some, Option.some.injEq] at hx; subst hx; rfl
/-- A row that has just been laid out. -/
theorem row_nil {α : Type} (d : Kd α) (I : Imm) : RowAt d I [] (fun j => ([] : List Value)[j]?) := ⟨fun i x h => by simp at h⟩
theorem row_cons {α : Type} {d : Kd α} {y : α} {ys : List α} {l r : List Value} (h : d.R I y l) (hr : RowAt d I ys (fun j => r[j]?)) : RowAt d I (y :: ys) (fun j => (l ++ r)[j]?) := by
  have hl := d.len h
  refine ⟨fun i x hx => ?_⟩
  cases i with
  | zero =>
    simp only [List.getElem?_cons_zero, Option.some.injEq] at hx
    subst hx
    refine ⟨l, h, fun j v hj => ?_⟩
    have := (List.getElem?_eq_some_iff.1 hj).1
    simp only [Nat.zero_mul, Nat.zero_add]
    rw [List.getElem?_append_left (by omega)]; exact hj
  | succ i =>
    obtain ⟨q, h1, h2⟩ := hr.at_ i x (by simpa using hx)
    refine ⟨q, h1, fun j v hj => ?_⟩
    have := h2 j v hj
    show (l ++ r)[(i + 1) * d.n + j]? = _
    rw [List.getElem?_append_right (by rw [hl, Nat.add_mul, Nat.one_mul]; omega), hl, show (i + 1) * d.n + j - d.n = i * d.n + j from by rw [Nat.add_mul, Nat.one_mul]; omega]
    exact this
/-- A slice literal is a slice of the call's own. -/
theorem OwnS.lit {α : Type} {d : Kd α} {e : TypeId} {g n : Nat} {cs : Array Value} {ys : List α} (h : RowAt d I ys (fun j => cs.toList[j]?)) (hn : ys.length = n) (hs : cs.size = n * d.n) (hm : Nat.ble n 2147483648 = true) :
    OwnS d e I (some ⟨g, 0, none⟩) n ys [(g, .cells cs e)] :=
  .inr ⟨g, cs, (0, 0), rfl, rfl, FreeOf.zero _, by omega, hs, ⟨fun i x hx => let ⟨l, h1, h2⟩ := h.at_ i x hx; ⟨l, h1, fun j v hj => by have := h2 j v hj; simpa using this⟩⟩, by rw [hn]; exact Nat.le_of_ble_eq_true hm⟩

def app {α : Type} (xs ys : List α) : Option (List α) := if (xs ++ ys).length ≤ maxLen' then some (xs ++ ys) else none
theorem app_some {α : Type} {xs ys zs : List α} (h : app xs ys = some zs) : zs = xs ++ ys ∧ zs.length ≤ maxLen' := by
  unfold app at h
  split at h
  · simp only [Option.some.injEq] at h; subst h; exact ⟨rfl, by assumption⟩
  · cases h
theorem gl_append {α : Type} {d : Kd α} {t tx e : TypeId} {s x : Operand} {A : Option Addr} {c : Nat} {xs ys zs : List α} {xv : Value} {C : Own} (f : Own → Own) (hz : app xs ys = some zs)
    (ho : (opAt ops k).op = .call { callee := .builtin .append, args := #[s, x], argTypes := #[t, tx] }) (h : readyKV ops k N K = true)
    (hs : kvOp K s = some (.slice A xs.length c)) (hx : kvOp K x = some xv) (he : sliceElem P t = some (e, d.n)) (hinfo : elemInfo P e d.n = true)
    (hU : ∀ X, Upd L C X (f X)) (hO : OwnS d e I A c xs C) (hsrc : SrcOk P d I L tx xv ys)
    (kk : ∀ A' c' C', OwnS d e I A' c' zs C' → GLk P ops (k + 1) N (kvPut K (opAt ops k).dst (.slice A' zs.length c')) I (f C') T) : GLk P ops k N K I L T := by
  obtain ⟨rfl, hle⟩ := app_some hz
  refine gl_gen h fun t' ht W hW => ?_
  obtain ⟨news, h1, h2⟩ := hsrc W hW
  obtain ⟨A', c', C', W', h3, h4, h5⟩ := own_append (P := P) (ty := (opAt ops k).type) hW hU hO (sliceElem_spec he).1 hinfo h1 h2 hle
  refine ⟨_, I, f C', W', ?_, h5, kk A' c' C' h4⟩
  simp only [execOp, ho, resolve, invoke, builtin, Sem.run_bind, Sem.run_pure, Result.andThen_ok, List.map_toArray, List.map_cons, List.map_nil, ht.op hs, ht.op hx, h3]

/-! ### 1b. Elements of slices of the call's own -/
def AtL (I : Imm) (L : Own) (p : Addr) (cs : List Value) : Prop := ∀ W, Holds I L W → ∀ j v, cs[j]? = some v → W.cell? (p.add j) = some v
theorem RunAt.atL {p : Addr} {cs : List Value} (h : RunAt I p cs) (L : Own) : AtL I L p cs := fun W hW j v hj => hW.cell (h j v hj)
theorem AtL.drop {p : Addr} {cs : List Value} (h : AtL I L p cs) (m : Nat) : AtL I L (p.add m) (cs.drop m) := fun W hW j v hj => by
  rw [add_add]; exact h W hW (m + j) v (by rw [List.getElem?_drop] at hj; exact hj)
theorem AtL.take {p : Addr} {cs : List Value} (h : AtL I L p cs) (m : Nat) : AtL I L p (cs.take m) := fun W hW j v hj => by
  rw [List.getElem?_take] at hj
  split at hj
  · exact h W hW j v hj
  · cases hj
theorem gl_indexAddrO {α : Type} {d : Kd α} {T' e e' : TypeId} {xs xi : Operand} {A : Option Addr} {c : Nat} {l : List α} {x : α} {kd : IntKind} {i : Int} {C : Own} (hx : ix l i = some x) (hO : OwnS d e' I A c l C) (hU : Upd L C C L)
    (ho : (opAt ops k).op = .indexAddr T' xs xi) (h : readyKV ops k N K = true) (hs : kvOp K xs = some (.slice A l.length c)) (hi : kvOp K xi = some (.int kd i)) (hu : sliceElem P T' = some (e, d.n))
    (kk : ∀ p cs, d.R I x cs → AtL I L p cs → GLk P ops (k + 1) N (kvPut K (opAt ops k).dst (.pointer (some p))) I L T) : GLk P ops k N K I L T := by
  obtain ⟨h0, h1, h2⟩ := ix_some hx
  obtain ⟨hu1, hu2⟩ := sliceElem_spec hu
  rcases hO with ⟨rfl, _, _⟩ | ⟨g, cells, fz, rfl, rfl, _, h4, h5, h6, _⟩
  · simp at h2
  · obtain ⟨cs, hR, hr⟩ := h6.at_ _ x h2
    refine gl_step h (fun t ht W hW => ?_) (kk ((⟨g, 0, none⟩ : Addr).add (i.toNat * d.n)) cs hR (fun W hW j v hj => ?_))
    · simp [execOp, ho, ht.op hs, ht.op hi, Instr.indexAt, asIntOf, run_underlying' hu1, h0, h1, hu2]
    · obtain ⟨R, h1', _⟩ := hW.upd hU
      have hg : W.heap[g]? = some (.cells cells e' fz) := h1'.mem (by simp)
      have hadd : ((⟨g, 0, none⟩ : Addr).add (i.toNat * d.n)).add j = ⟨g, i.toNat * d.n + j, none⟩ := by
        rw [add_add]; unfold Addr.add; split
        · rename_i h; rw [h]
        · simp
      rw [hadd]
      simp only [World.cell?, hg]
      simpa using hr j v hj
theorem gl_loadO {T' : TypeId} {xp : Operand} {p : Addr} {c : Value} {cs : List Value} {n : Nat} (ho : (opAt ops k).op = .load T' xp) (h : readyKV ops k N K = true)
    (hp : kvOp K xp = some (.pointer (some p))) (hT : aggInfo P T' = some (false, n)) (hr : AtL I L p (c :: cs))
    (kk : GLk P ops (k + 1) N (kvPut K (opAt ops k).dst c) I L T) : GLk P ops k N K I L T := by
  refine gl_step h (fun t ht W hW => ?_) kk
  have hc : W.cell? p = some c := by have := hr W hW 0 c rfl; rwa [add_zero'] at this
  simp [execOp, ho, ht.op hp, Instr.loadAt, Instr.sureAddr, loadVar_one hT hc]
theorem gl_loadOA {T' : TypeId} {xp : Operand} {p : Addr} {cs : List Value} (ho : (opAt ops k).op = .load T' xp) (h : readyKV ops k N K = true)
    (hp : kvOp K xp = some (.pointer (some p))) (hT : aggInfo P T' = some (true, cs.length)) (hr : AtL I L p cs)
    (kk : GLk P ops (k + 1) N (kvPut K (opAt ops k).dst (.agg cs.toArray)) I L T) : GLk P ops k N K I L T := by
  refine gl_step h (fun t ht W hW => ?_) kk
  simp [execOp, ho, ht.op hp, Instr.loadAt, Instr.sureAddr, loadVar_agg hT (hr W hW)]

/-! ### 2. Bytes and strings -/
def sb (s : ByteArray) : Option (List Int) := if s.size ≤ maxLen' then some (bytesOf s) else none
theorem sb_some {s : ByteArray} {l : List Int} (h : sb s = some l) : l = bytesOf s ∧ s.size ≤ maxLen' := by
  unfold sb at h
  split at h
  · simp only [Option.some.injEq] at h; exact ⟨h.symm, by assumption⟩
  · cases h
def ofBytes (xs : List Int) : ByteArray := xs.foldl (fun r n => r.push (UInt8.ofNat n.toNat)) ByteArray.empty
theorem rows_int {kd : IntKind} {xs : List Int} {l : List Value} (h : RowAt (Kd.int kd) I xs (fun j => l[j]?)) (hl : l.length = xs.length * 1) : l = xs.map (Value.int kd) := by
  apply List.ext_getElem?
  intro i
  rw [List.getElem?_map]
  cases hx : xs[i]? with
  | none =>
    have := List.getElem?_eq_none_iff.1 hx
    simp only [Option.map_none]
    exact List.getElem?_eq_none (by omega)
  | some x =>
    obtain ⟨q, h1, h2⟩ := h.at_ i x hx
    have h1' : q = [.int kd x] := h1
    subst h1'
    have := h2 0 (.int kd x) rfl
    simp only [Option.map_some]
    have e : i * (Kd.int kd).n + 0 = i := by show i * 1 + 0 = i; omega
    rwa [e] at this
theorem gl_bytesStr {src dst e : TypeId} {n : Nat} {x : Operand} {A : Option Addr} {c : Nat} {xs : List Int} (ho : (opAt ops k).op = .convert src dst x) (h : readyKV ops k N K = true)
    (hx : kvOp K x = some (.slice A xs.length c)) (hs : sliceElem P src = some (e, n)) (hu : P.underlying e = some (.int .u8)) (hd : P.underlying dst = some .string) (hr : RdS (Kd.int .u8) I L A xs)
    (kk : GLk P ops (k + 1) N (kvPut K (opAt ops k).dst (.string (ofBytes xs))) I L T) : GLk P ops k N K I L T := by
  refine gl_step h (fun t ht W hW => ?_) kk
  obtain ⟨l, h1, h2, h3, h4⟩ := hr.rd W hW
  have hll : l = xs.map (Value.int .u8) := rows_int h2 h1
  have hc := run_convert_bytes_string (P := P) W src dst e A xs.length c (sliceElem_spec hs).1 hu hd
  have hb : (Conv.bytesToString (.slice A xs.length c)).run P W = .ok (.string (ofBytes xs)) W := by
    cases A with
    | none =>
      have : xs = [] := by
        cases hxs : xs with
        | nil => rfl
        | cons y ys => obtain ⟨a, ha, _⟩ := h4 (by rw [hxs]; simp); cases ha
      subst this
      simp [Conv.bytesToString, ofBytes]
    | some a =>
      refine run_bytesToString W a xs.length c xs ?_
      by_cases hne : xs = []
      · subst hne; simp [loadCells, loadCellsFrom]
      · obtain ⟨a', ha, h5⟩ := h4 hne
        cases ha
        have := loadCellsFrom_run (P := P) (W := W) (a := a) l 0 #[] (fun j v hj => by rw [Nat.zero_add]; exact h5 j v hj)
        rw [hll] at this
        simp only [List.length_map] at this
        simpa [loadCells] using this
  simp only [execOp, ho, ht.op hx, Sem.run_bind, hc, hb, Result.andThen_ok, Sem.run_pure]
theorem gl_strBytes {src dst e : TypeId} {n : Nat} {x : Operand} {s : ByteArray} {l : List Int} (hl : sb s = some l) (ho : (opAt ops k).op = .convert src dst x) (h : readyKV ops k N K = true)
    (hx : kvOp K x = some (.string s)) (hs : P.underlying src = some .string) (hd : sliceElem P dst = some (e, n)) (hu : P.underlying e = some (.int .u8))
    (kk : ∀ A c C, OwnS (Kd.int .u8) e I A c l C → GLk P ops (k + 1) N (kvPut K (opAt ops k).dst (.slice A l.length c)) I (C ++ L) T) : GLk P ops k N K I L T := by
  obtain ⟨rfl, hmax⟩ := sb_some hl
  refine gl_gen h fun t ht W hW => ?_
  have hr := Lib.run_convert_string_bytes (P := P) W src dst e s hs (sliceElem_spec hd).1 hu
  have hg := Lib.bytesWorld_at_new W e s
  have hsz : (Lib.bytesCells W e s).size = grownCap W s.size 0 e := by
    have := grownCap_ge W s.size 0 e
    have hs' : s.data.size = s.size := rfl
    simp only [Lib.bytesCells, Array.size_append, Array.size_map, Array.size_replicate]; omega
  refine ⟨_, I, [(W.heap.size, .cells (Lib.bytesCells W e s) e ((Lib.bytesCells W e s).size, (Lib.bytesCells W e s).size + 1))] ++ L, Lib.bytesWorld W e s, ?_, ?_, kk (some ⟨W.heap.size, 0, none⟩) (grownCap W s.size 0 e) _ (.inr ⟨W.heap.size, _, _, rfl, rfl, fun j hj hh => ?_, ?_, ?_, ?_, by rw [bytesOf_length]; exact hmax⟩)⟩
  · simp only [execOp, ho, ht.op hx, Sem.run_bind, hr, Result.andThen_ok, Sem.run_pure, bytesOf_length]
  · have h1 := hW.new (Obj.cells (Lib.bytesCells W e s) e)
    have h2 := Holds.set (A := []) (L := L) (g := W.heap.size) h1 (Obj.cells (Lib.bytesCells W e s) e ((Lib.bytesCells W e s).size, (Lib.bytesCells W e s).size + 1)) (W' := Lib.bytesWorld W e s) hg (fun b hb => by
      show _ = (W.heap.push _)[b]?
      by_cases hlt : b < W.heap.size
      · rw [Lib.bytesWorld_at_old W e s b hlt, Array.getElem?_push, if_neg (by omega)]
      · rw [Array.getElem?_eq_none (by rw [Lib.bytesWorld_size]; omega), Array.getElem?_eq_none (by simp; omega)]) rfl rfl ⟨rfl, Nat.le_succ _⟩
    exact h2
  · simp only at hh; omega
  · rw [bytesOf_length]; exact grownCap_ge W _ _ _
  · rw [hsz]; show _ = _ * 1; omega
  · refine ⟨fun i x hx => ⟨[.int .u8 x], rfl, fun j v hj => ?_⟩⟩
    have hj0 : j = 0 := by have := (List.getElem?_eq_some_iff.1 hj).1; simpa using this
    subst hj0
    simp only [List.getElem?_cons_zero, Option.some.injEq] at hj
    subst hj
    show (Lib.bytesCells W e s)[i * 1 + 0]? = _
    rw [Nat.mul_one, Nat.add_zero]
    have hi : i < s.size := by rw [← bytesOf_length]; exact (List.getElem?_eq_some_iff.1 hx).1
    have hi' : i < s.data.size := hi
    unfold bytesOf at hx
    rw [List.getElem?_map, Array.getElem?_toList, Array.getElem?_eq_getElem hi'] at hx
    simp only [Option.map_some, Option.some.injEq] at hx
    subst hx
    simp only [Lib.bytesCells]
    rw [Array.getElem?_append_left (by simpa using hi'), Array.getElem?_map, Array.getElem?_eq_getElem hi']
    rfl

/-! ### 3. A part of a slice -/
def lx {α : Type} (xs : List α) (l r : Int) : Option (List α) := if 0 ≤ l ∧ l ≤ r ∧ r ≤ (xs.length : Int) then some ((xs.take r.toNat).drop l.toNat) else none
theorem gl_sliceR {α : Type} {d : Kd α} {T' e : TypeId} {xs : Operand} {lo hi : Option Operand} {A : Option Addr} {c : Nat} {l l' : List α} {a b : Int} (hx : lx l a b = some l') (hr : RepS d I A c l)
    (ho : (opAt ops k).op = .slice T' xs lo hi none) (h : readyKV ops k N K = true) (hs : kvOp K xs = some (.slice A l.length c)) (hu : sliceElem P T' = some (e, d.n))
    (hl : kvBound K lo 0 = some a) (hh : kvBound K hi l.length = some b)
    (kk : ∀ A' c', RepS d I A' c' l' → GLk P ops (k + 1) N (kvPut K (opAt ops k).dst (.slice A' l'.length c')) I L T) : GLk P ops k N K I L T := by
  unfold lx at hx
  split at hx <;> try (cases hx; done)
  rename_i hb
  obtain ⟨h0, h1, h2⟩ := hb
  simp only [Option.some.injEq] at hx
  obtain ⟨hu1, hu2⟩ := sliceElem_spec hu
  have hle := hr.le
  have hlen : l'.length = b.toNat - a.toNat := by rw [← hx]; simp; omega
  have hrep : RepS d I (if c = a.toNat then A else A.map (·.add (a.toNat * d.n))) (c - a.toNat) l' := by
    refine ⟨by omega, by have := hr.max; omega, fun i x hi => ?_⟩
    rw [← hx, List.getElem?_drop, List.getElem?_take] at hi
    split at hi
    · obtain ⟨p, cs, hA, hR, hrun⟩ := hr.at_ _ x hi
      have : ¬ c = a.toNat := by omega
      refine ⟨p.add (a.toNat * d.n), cs, by rw [if_neg this, hA]; rfl, hR, ?_⟩
      rw [add_add, ← Nat.add_mul]; exact hrun
    · cases hi
  refine gl_step (v := .slice (if c = a.toNat then A else A.map (·.add (a.toNat * d.n))) l'.length (c - a.toNat)) h (fun t ht W hW => ?_) (kk _ _ hrep)
  have e1 : (a.toNat : Int) = a := by omega
  have e2 : (b.toNat : Int) = b := by omega
  have hbc : b ≤ (c : Int) := by omega
  rcases kvBound_spec hl with ⟨rfl, rfl⟩ | ⟨x, kx, rfl, hx'⟩
  · rcases kvBound_spec hh with ⟨rfl, rfl⟩ | ⟨y, ky, rfl, hy⟩
    · simp [execOp, ho, ht.op hs, Instr.sliceAt, Instr.slice, run_underlying' hu1, Instr.sliceBounds, hu2, hlen]
    · simp [execOp, ho, ht.op hs, ht.op hy, Instr.sliceAt, Instr.slice, run_underlying' hu1, Instr.sliceBounds, Instr.sliceBound, asIntOf, hu2, show 0 ≤ b by omega, hbc, hlen]
  · rcases kvBound_spec hh with ⟨rfl, rfl⟩ | ⟨y, ky, rfl, hy⟩
    · simp [execOp, ho, ht.op hs, ht.op hx', Instr.sliceAt, Instr.slice, run_underlying' hu1, Instr.sliceBounds, Instr.sliceBound, asIntOf, hu2, h0, h1, hlen]
    · simp [execOp, ho, ht.op hs, ht.op hx', ht.op hy, Instr.sliceAt, Instr.slice, run_underlying' hu1, Instr.sliceBounds, Instr.sliceBound, asIntOf, hu2, show 0 ≤ b by omega, hbc, e2, h0, h1, hlen]
end
end Go.GB
