/- Memory: how data lie in it; slices that are read; rows of the call's own; blocks of the call's own. -/
import Derived.Test.YtjkkmbjkndageaaDoorGB2
import Derived.RowKit3
import Derived.Laws.Append
set_option linter.unusedVariables false
set_option linter.unusedSimpArgs false
namespace Go.GB

/-! ### 1. Cells -/
def Imm.cell (I : Imm) (a : Addr) : Option Value :=
  match I.h a.block with
  | some (.cells c _ _) => if a.spot.isSome then none else c[a.off]?
  | _ => none
theorem Holds.cell {I : Imm} {L : Own} {W : World} (h : Holds I L W) {a : Addr} {v : Value} (hc : I.cell a = some v) : W.cell? a = some v := by
  unfold Imm.cell at hc
  split at hc
  · rename_i c e f hb
    have := h.imm _ _ hb
    simp only [World.cell?, this]
    exact hc
  · cases hc
theorem Imm.cell_mono {I J : Imm} (h : I ≤ J) {a : Addr} {v : Value} (hc : I.cell a = some v) : J.cell a = some v := by
  unfold Imm.cell at hc ⊢
  split at hc
  · rename_i c e f hb
    rw [h.h _ _ hb]; exact hc
  · cases hc
theorem add_add (a : Addr) (i j : Nat) : (a.add i).add j = a.add (i + j) := by
  unfold Addr.add
  by_cases hi : i = 0
  · subst hi; simp
  · by_cases hj : j = 0
    · subst hj; simp [hi]
    · simp [hi, hj, Nat.add_assoc]
theorem add_zero' (a : Addr) : a.add 0 = a := by simp [Addr.add]

def RunAt (I : Imm) (a : Addr) (cs : List Value) : Prop := ∀ j v, cs[j]? = some v → I.cell (a.add j) = some v
theorem Imm.cell_monoH {I J : Imm} (h : ∀ b o, I.h b = some o → J.h b = some o) {a : Addr} {v : Value} (hc : I.cell a = some v) : J.cell a = some v :=
  Imm.cell_mono (J := { I with h := J.h }) ⟨h, rfl, rfl, rfl, rfl⟩ hc
theorem RunAt.monoH {I J : Imm} {a : Addr} {cs : List Value} (hr : RunAt I a cs) (h : ∀ b o, I.h b = some o → J.h b = some o) : RunAt J a cs := fun j v hj => Imm.cell_monoH h (hr j v hj)
theorem RunAt.mono {I J : Imm} {a : Addr} {cs : List Value} (hr : RunAt I a cs) (h : I ≤ J) : RunAt J a cs := fun j v hj => Imm.cell_mono h (hr j v hj)
theorem RunAt.drop {I : Imm} {a : Addr} {cs : List Value} (hr : RunAt I a cs) (k : Nat) : RunAt I (a.add k) (cs.drop k) := fun j v hj => by
  rw [add_add]; exact hr (k + j) v (by rw [List.getElem?_drop] at hj; exact hj)
theorem RunAt.take {I : Imm} {a : Addr} {cs : List Value} (hr : RunAt I a cs) (k : Nat) : RunAt I a (cs.take k) := fun j v hj => by
  rw [List.getElem?_take] at hj
  split at hj
  · exact hr j v hj
  · cases hj

/-! ### 2. Kinds of data -/
structure Kd (α : Type) where
  n : Nat
  R : Imm → α → List Value → Prop
  len : ∀ {I x cs}, R I x cs → cs.length = n
  one : ∀ {I x cs}, R I x cs → ∀ c ∈ cs, c.oneCell' = true
  monoH : ∀ {I J : Imm} {x cs}, (∀ b o, I.h b = some o → J.h b = some o) → R I x cs → R J x cs
namespace Kd
theorem mono {α : Type} (d : Kd α) {I J : Imm} {x : α} {cs : List Value} (h : I ≤ J) (hr : d.R I x cs) : d.R J x cs := d.monoH h.h hr
def int (k : IntKind) : Kd Int := ⟨1, fun _ x cs => cs = [.int k x], fun h => by rw [h]; rfl, fun h c hc => by rw [h] at hc; simp at hc; rw [hc]; rfl, fun _ h => h⟩
def bool : Kd Bool := ⟨1, fun _ x cs => cs = [.bool x], fun h => by rw [h]; rfl, fun h c hc => by rw [h] at hc; simp at hc; rw [hc]; rfl, fun _ h => h⟩
def str : Kd ByteArray := ⟨1, fun _ x cs => cs = [.string x], fun h => by rw [h]; rfl, fun h c hc => by rw [h] at hc; simp at hc; rw [hc]; rfl, fun _ h => h⟩
def pair {α β : Type} (a : Kd α) (b : Kd β) : Kd (α × β) :=
  ⟨a.n + b.n, fun I x cs => ∃ ca cb, cs = ca ++ cb ∧ a.R I x.1 ca ∧ b.R I x.2 cb,
    fun ⟨ca, cb, h, ha, hb⟩ => by rw [h, List.length_append, a.len ha, b.len hb],
    fun ⟨ca, cb, h, ha, hb⟩ c hc => by rw [h] at hc; rcases List.mem_append.1 hc with hc | hc; exact a.one ha c hc; exact b.one hb c hc,
    fun hI ⟨ca, cb, h, ha, hb⟩ => ⟨ca, cb, h, a.monoH hI ha, b.monoH hI hb⟩⟩
def iso {α β : Type} (d : Kd β) (f : α → β) : Kd α := ⟨d.n, fun I x cs => d.R I (f x) cs, fun h => d.len h, fun h => d.one h, fun hI h => d.monoH hI h⟩
end Kd

/-- A slice that is read ('.slice A xs.length c'): nil and empty alike. -/
def maxLen' : Nat := 2147483648
structure RepS {α : Type} (d : Kd α) (I : Imm) (A : Option Addr) (c : Nat) (xs : List α) : Prop where
  le : xs.length ≤ c
  max : xs.length ≤ maxLen'
  at_ : ∀ i x, xs[i]? = some x → ∃ a cs, A = some a ∧ d.R I x cs ∧ RunAt I (a.add (i * d.n)) cs
theorem RepS.monoH {α : Type} {d : Kd α} {I J : Imm} {A : Option Addr} {c : Nat} {xs : List α} (h : RepS d I A c xs) (hI : ∀ b o, I.h b = some o → J.h b = some o) : RepS d J A c xs := by
  refine ⟨h.le, h.max, fun i x hx => ?_⟩
  obtain ⟨a, cs, ha, hR, hr⟩ := h.at_ i x hx
  exact ⟨a, cs, ha, d.monoH hI hR, hr.monoH hI⟩
theorem RepS.mono {α : Type} {d : Kd α} {I J : Imm} {A : Option Addr} {c : Nat} {xs : List α} (h : RepS d I A c xs) (hI : I ≤ J) : RepS d J A c xs := by
  refine ⟨h.le, h.max, fun i x hx => ?_⟩
  obtain ⟨a, cs, ha, hR, hr⟩ := h.at_ i x hx
  exact ⟨a, cs, ha, d.mono hI hR, hr.mono hI⟩
theorem RepS.nil {α : Type} (d : Kd α) (I : Imm) : RepS d I none 0 [] := ⟨Nat.le_refl _, by simp [maxLen'], fun i x h => by simp at h⟩
namespace Kd
def sl {α : Type} (d : Kd α) : Kd (List α) := ⟨1, fun I xs cs => ∃ A c, cs = [.slice A xs.length c] ∧ RepS d I A c xs, fun ⟨_, _, h, _⟩ => by rw [h]; rfl,
  fun ⟨A, c, h, _⟩ x hx => by rw [h] at hx; simp at hx; rw [hx]; rfl, fun hI ⟨A, c, h, hr⟩ => ⟨A, c, h, hr.monoH hI⟩⟩
end Kd
theorem sl_open {α : Type} {d : Kd α} {I : Imm} {xs : List α} {cs : List Value} (h : (Kd.sl d).R I xs cs) : ∃ A c, cs = [.slice A xs.length c] ∧ RepS d I A c xs := h

/-! ### 3. Partial operations of lists and strings -/
def bitAnd (k : IntKind) (x y : Int) : Int := k.wrap (BitVec.ofInt k.bits x &&& BitVec.ofInt k.bits y).toNat
def bitOr (k : IntKind) (x y : Int) : Int := k.wrap (BitVec.ofInt k.bits x ||| BitVec.ofInt k.bits y).toNat
def bitXor (k : IntKind) (x y : Int) : Int := k.wrap (BitVec.ofInt k.bits x ^^^ BitVec.ofInt k.bits y).toNat
def bitAndnot (k : IntKind) (x y : Int) : Int := k.wrap (BitVec.ofInt k.bits x &&& ~~~(BitVec.ofInt k.bits y)).toNat
def shl (k : IntKind) (x y : Int) : Int := k.wrap (x * 2 ^ (min y.toNat k.bits))
def shr (k : IntKind) (x y : Int) : Int := x.fdiv (2 ^ (min y.toNat k.bits))
def ix {α : Type} (xs : List α) (i : Int) : Option α := if 0 ≤ i then xs[i.toNat]? else none
def bx (s : ByteArray) (i : Int) : Option Int := if 0 ≤ i ∧ i < (s.size : Int) then some (byteAt s i) else none
def sx (s : ByteArray) (l r : Int) : Option ByteArray := if 0 ≤ l ∧ l ≤ r ∧ r ≤ (s.size : Int) then some (s.extract l.toNat r.toNat) else none
theorem ix_some {α : Type} {xs : List α} {i : Int} {x : α} (h : ix xs i = some x) : 0 ≤ i ∧ i < (xs.length : Int) ∧ xs[i.toNat]? = some x := by
  unfold ix at h
  split at h
  · have := (List.getElem?_eq_some_iff.1 h).1
    exact ⟨by assumption, by omega, h⟩
  · cases h

section
variable {P : Program} {ops : Array Oper} {k N : Nat} {K : KV} {I : Imm} {L : Own} {T : TPost}

theorem gl_index' {T' : TypeId} {xs xi : Operand} {b : ByteArray} {kd : IntKind} {n c : Int} (hr : bx b n = some c) (ho : (opAt ops k).op = .index T' xs xi) (h : readyKV ops k N K = true)
    (hs : kvOp K xs = some (.string b)) (hi : kvOp K xi = some (.int kd n)) (hu : P.underlying T' = some .string)
    (kk : GLk P ops (k + 1) N (kvPut K (opAt ops k).dst (.int .u8 c)) I L T) : GLk P ops k N K I L T := by
  unfold bx at hr
  split at hr
  · rename_i hb; cases hr; exact gl_index ho h hs hi hu hb.1 hb.2 kk
  · cases hr
theorem gl_slice' {T' : TypeId} {xs : Operand} {lo hi : Option Operand} {b b' : ByteArray} {l r : Int} (hr' : sx b l r = some b') (ho : (opAt ops k).op = .slice T' xs lo hi none) (h : readyKV ops k N K = true)
    (hs : kvOp K xs = some (.string b)) (hu : P.underlying T' = some .string)
    (hl : kvBound K lo 0 = some l) (hr : kvBound K hi b.size = some r)
    (kk : GLk P ops (k + 1) N (kvPut K (opAt ops k).dst (.string b')) I L T) : GLk P ops k N K I L T := by
  unfold sx at hr'
  split at hr'
  · rename_i hb; cases hr'; exact gl_slice ho h hs hu hl hr hb.1 hb.2.1 hb.2.2 kk
  · cases hr'

/-! ### 4. Reading -/
def aggInfo (P : Program) (T : TypeId) : Option (Bool × Nat) :=
  match P.underlying T, P.info? T with
  | some (.struct _), some i => some (true, i.size)
  | some (.array _ _), some i => some (true, i.size)
  | some _, some i => some (false, i.size)
  | _, _ => none
def sliceElem (P : Program) (T : TypeId) : Option (TypeId × Nat) :=
  match P.underlying T with
  | some (.slice e) => match P.info? e with
    | some i => some (e, i.size)
    | none => none
  | _ => none
theorem sliceElem_spec {T' : TypeId} {e n : Nat} (h : sliceElem P T' = some (e, n)) : P.underlying T' = some (.slice e) ∧ ∀ W, (sizeOf e).run P W = .ok n W := by
  unfold sliceElem at h
  split at h
  · rename_i e' hu
    split at h
    · rename_i i hi
      simp only [Option.some.injEq, Prod.mk.injEq] at h
      obtain ⟨rfl, rfl⟩ := h
      exact ⟨hu, fun W => by simp [sizeOf, typeInfo, hi]⟩
    · cases h
  · cases h

theorem gl_indexAddr {α : Type} {d : Kd α} {T' e : TypeId} {xs xi : Operand} {A : Option Addr} {c : Nat} {l : List α} {x : α} {kd : IntKind} {i : Int} (hx : ix l i = some x) (hl : RepS d I A c l)
    (ho : (opAt ops k).op = .indexAddr T' xs xi) (h : readyKV ops k N K = true) (hs : kvOp K xs = some (.slice A l.length c)) (hi : kvOp K xi = some (.int kd i)) (hu : sliceElem P T' = some (e, d.n))
    (kk : ∀ p cs, d.R I x cs → RunAt I p cs → GLk P ops (k + 1) N (kvPut K (opAt ops k).dst (.pointer (some p))) I L T) : GLk P ops k N K I L T := by
  obtain ⟨h0, h1, h2⟩ := ix_some hx
  obtain ⟨a, cs, rfl, hR, hr⟩ := hl.at_ _ _ h2
  obtain ⟨hu1, hu2⟩ := sliceElem_spec hu
  refine gl_step h (fun t ht W hW => ?_) (kk _ _ hR hr)
  simp [execOp, ho, ht.op hs, ht.op hi, Instr.indexAt, asIntOf, run_underlying' hu1, h0, h1, hu2]

theorem aggInfo_spec {T' : TypeId} {b : Bool} {n : Nat} (h : aggInfo P T' = some (b, n)) : (∀ W, (isAgg T').run P W = .ok b W) ∧ ∀ W, (sizeOf T').run P W = .ok n W := by
  unfold aggInfo at h
  cases hu : P.underlying T' with
  | none => simp [hu] at h
  | some d =>
    cases hi : P.info? T' with
    | none => rw [hu, hi] at h; cases d <;> simp at h
    | some i =>
      rw [hu, hi] at h
      refine ⟨fun W => ?_, fun W => ?_⟩
      · cases d <;> simp at h <;> simp [isAgg, run_underlying' hu, h.1]
      · cases d <;> simp at h <;> simp [sizeOf, typeInfo, hi, h.2]
theorem run_load' {W : World} {a : Addr} {v : Value} (h : W.cell? a = some v) : (load a).run P W = .ok v W := by simp [h]
theorem loadCellsFrom_run {W : World} {a : Addr} (cs : List Value) : ∀ (i : Nat) (acc : Array Value), (∀ j v, cs[j]? = some v → W.cell? (a.add (i + j)) = some v) →
    (loadCellsFrom a i cs.length acc).run P W = .ok (acc ++ cs.toArray) W := by
  induction cs with
  | nil => intro i acc _; simp [loadCellsFrom]
  | cons c cs ih =>
    intro i acc h
    have h0 := h 0 c rfl
    simp only [Nat.add_zero] at h0
    simp only [List.length_cons, loadCellsFrom, Sem.run_bind, run_load' h0, Result.andThen_ok]
    rw [ih (i + 1) (acc.push c) (fun j v hj => by have := h (j + 1) v (by simpa using hj); rwa [show i + (j + 1) = i + 1 + j from by omega] at this)]
    simp
theorem loadVar_one {T' : TypeId} {n : Nat} {W : World} {a : Addr} {v : Value} (hT : aggInfo P T' = some (false, n)) (h : W.cell? a = some v) : (loadVar T' a).run P W = .ok v W := by
  simp [loadVar, (aggInfo_spec hT).1, h]
theorem loadVar_agg {T' : TypeId} {W : World} {a : Addr} {cs : List Value} (hT : aggInfo P T' = some (true, cs.length)) (h : ∀ j v, cs[j]? = some v → W.cell? (a.add j) = some v) :
    (loadVar T' a).run P W = .ok (.agg cs.toArray) W := by
  have := loadCellsFrom_run (P := P) cs 0 #[] (fun j v hj => by rw [Nat.zero_add]; exact h j v hj)
  simp [loadVar, (aggInfo_spec hT).1, (aggInfo_spec hT).2, loadCells, this]
/-- A cell of immutable memory. -/
theorem gl_load {T' : TypeId} {xp : Operand} {p : Addr} {c : Value} {cs : List Value} {n : Nat} (ho : (opAt ops k).op = .load T' xp) (h : readyKV ops k N K = true)
    (hp : kvOp K xp = some (.pointer (some p))) (hT : aggInfo P T' = some (false, n)) (hr : RunAt I p (c :: cs))
    (kk : GLk P ops (k + 1) N (kvPut K (opAt ops k).dst c) I L T) : GLk P ops k N K I L T := by
  refine gl_step h (fun t ht W hW => ?_) kk
  have hc : W.cell? p = some c := by have := hW.cell (hr 0 c rfl); rwa [add_zero'] at this
  simp [execOp, ho, ht.op hp, Instr.loadAt, Instr.sureAddr, loadVar_one hT hc]
theorem gl_loadA {T' : TypeId} {xp : Operand} {p : Addr} {cs : List Value} (ho : (opAt ops k).op = .load T' xp) (h : readyKV ops k N K = true)
    (hp : kvOp K xp = some (.pointer (some p))) (hT : aggInfo P T' = some (true, cs.length)) (hr : RunAt I p cs)
    (kk : GLk P ops (k + 1) N (kvPut K (opAt ops k).dst (.agg cs.toArray)) I L T) : GLk P ops k N K I L T := by
  refine gl_step h (fun t ht W hW => ?_) kk
  simp [execOp, ho, ht.op hp, Instr.loadAt, Instr.sureAddr, loadVar_agg hT (fun j v hj => hW.cell (hr j v hj))]
end
end Go.GB
