/- A program logic over 'Code.wp' in which the world is hidden: what is known of memory is an immutable part I (whole blocks that stay), a list L of owned blocks, and the values KV of some slots of the frame. -/
import Derived.Tactics
import Derived.Deep.Quiet
import Derived.KernelRfl
import Derived.Orders
set_option linter.unusedVariables false
set_option linter.unusedSimpArgs false
namespace Go.GB

/-! ### 1. What is known of the world -/
structure Imm where
  h : Nat → Option Obj
  os : Os
  tape : Nat → Question → Nat
  out : Array (Nat × ByteArray)
  dr : Nat

structure Imm.Le (I J : Imm) : Prop where
  h : ∀ b o, I.h b = some o → J.h b = some o
  os : J.os = I.os
  tape : J.tape = I.tape
  out : J.out = I.out
  dr : J.dr = I.dr

instance : LE Imm := ⟨Imm.Le⟩
theorem Imm.refl (I : Imm) : I ≤ I := ⟨fun _ _ h => h, rfl, rfl, rfl, rfl⟩
theorem Imm.trans {I J K : Imm} (a : I ≤ J) (b : J ≤ K) : I ≤ K :=
  ⟨fun x o h => b.h x o (a.h x o h), b.os.trans a.os, b.tape.trans a.tape, b.out.trans a.out, b.dr.trans a.dr⟩

abbrev Own := List (Nat × Obj)

structure Holds (I : Imm) (L : Own) (W : World) : Prop where
  imm : ∀ b o, I.h b = some o → W.heap[b]? = some o
  own : ∀ p ∈ L, W.heap[p.1]? = some p.2
  nd : (L.map Prod.fst).Nodup
  dj : ∀ p ∈ L, I.h p.1 = none
  os : W.os = I.os
  tape : W.tape = I.tape
  out : W.output = I.out
  dr : I.dr ≤ W.drawn

theorem Holds.drawn {I : Imm} {L : Own} {W : World} (h : Holds I L W) (n : Nat) (hn : W.drawn ≤ n := by omega) : Holds I L { W with drawn := n } :=
  ⟨h.imm, h.own, h.nd, h.dj, h.os, h.tape, h.out, Nat.le_trans h.dr hn⟩

theorem lt_of_heap {W : World} {b : Nat} {o : Obj} (h : W.heap[b]? = some o) : b < W.heap.size := (Array.getElem?_eq_some_iff.1 h).1

theorem Holds.new {I : Imm} {L : Own} {W : World} (h : Holds I L W) (o : Obj) :
    Holds I ((W.heap.size, o) :: L) { W with heap := W.heap.push o } := by
  have hI : I.h W.heap.size = none := by
    cases hx : I.h W.heap.size with
    | none => rfl
    | some x => exact absurd (lt_of_heap (h.imm _ _ hx)) (Nat.lt_irrefl _)
  refine ⟨fun b x hb => ?_, fun p hp => ?_, ?_, fun p hp => ?_, h.os, h.tape, h.out, h.dr⟩
  · have h1 := h.imm b x hb
    have h2 := lt_of_heap h1
    show (W.heap.push o)[b]? = _
    rw [Array.getElem?_push, if_neg (by omega)]; exact h1
  · show (W.heap.push o)[p.1]? = _
    rcases List.mem_cons.1 hp with rfl | hp
    · simp
    · have h1 := h.own p hp
      have h2 := lt_of_heap h1
      rw [Array.getElem?_push, if_neg (by omega)]; exact h1
  · simp only [List.map_cons, List.nodup_cons]
    refine ⟨fun hm => ?_, h.nd⟩
    obtain ⟨p, hp, he⟩ := List.mem_map.1 hm
    have := lt_of_heap (h.own p hp)
    omega
  · rcases List.mem_cons.1 hp with rfl | hp
    · exact hI
    · exact h.dj p hp

theorem Holds.perm {I : Imm} {L L' : Own} {W : World} (h : Holds I L W) (hp : L.Perm L') : Holds I L' W :=
  ⟨h.imm, fun p hm => h.own p (hp.mem_iff.2 hm), (hp.map _).nodup_iff.1 h.nd, fun p hm => h.dj p (hp.mem_iff.2 hm), h.os, h.tape, h.out, h.dr⟩

theorem Holds.sub {I : Imm} {L L' : Own} {W : World} (h : Holds I L W) (hs : L'.Sublist L) : Holds I L' W :=
  ⟨h.imm, fun p hm => h.own p (hs.subset hm), (hs.map _).nodup h.nd, fun p hm => h.dj p (hs.subset hm), h.os, h.tape, h.out, h.dr⟩

theorem Holds.drop {I : Imm} {C L : Own} {W : World} (h : Holds I (C ++ L) W) : Holds I L W := h.sub (List.sublist_append_right _ _)

/-- An owned block turns: all others stay. -/
theorem Holds.set {I : Imm} {A L : Own} {g : Nat} {o : Obj} {W : World} (h : Holds I (A ++ (g, o) :: L) W) (o' : Obj) {W' : World}
    (h1 : W'.heap[g]? = some o') (h2 : ∀ b, b ≠ g → W'.heap[b]? = W.heap[b]?) (h3 : W'.os = W.os) (h4 : W'.tape = W.tape) (h5 : W'.output = W.output ∧ W.drawn ≤ W'.drawn) :
    Holds I (A ++ (g, o') :: L) W' := by
  have hnd := h.nd
  rw [List.map_append, List.map_cons] at hnd
  have hne : ∀ p, p ∈ A ∨ p ∈ L → p.1 ≠ g := fun p hp he => by
    rw [List.nodup_append] at hnd
    obtain ⟨_, hn2, hn3⟩ := hnd
    rcases hp with hp | hp
    · exact hn3 p.1 (List.mem_map_of_mem hp) g (by simp) he
    · rw [List.nodup_cons] at hn2
      exact hn2.1 (List.mem_map.2 ⟨p, hp, he⟩)
  have hI : I.h g = none := h.dj (g, o) (by simp)
  refine ⟨fun b x hb => ?_, fun p hp => ?_, ?_, fun p hp => ?_, h3.trans h.os, h4.trans h.tape, h5.1.trans h.out, Nat.le_trans h.dr h5.2⟩
  · rw [h2 b (fun e => by rw [e, hI] at hb; cases hb)]; exact h.imm b x hb
  · rcases List.mem_append.1 hp with hp | hp
    · rw [h2 _ (hne p (.inl hp))]; exact h.own p (List.mem_append_left _ hp)
    · rcases List.mem_cons.1 hp with rfl | hp
      · exact h1
      · rw [h2 _ (hne p (.inr hp))]; exact h.own p (List.mem_append_right _ (List.mem_cons_of_mem _ hp))
  · rw [List.map_append, List.map_cons]; exact hnd
  · rcases List.mem_append.1 hp with hp | hp
    · exact h.dj p (List.mem_append_left _ hp)
    · rcases List.mem_cons.1 hp with rfl | hp
      · exact hI
      · exact h.dj p (List.mem_append_right _ (List.mem_cons_of_mem _ hp))

/-- Owned blocks become immutable. -/
def Imm.adds (I : Imm) (C : Own) : Imm := { I with h := fun b => match C.find? (fun p => p.1 == b) with | some p => some p.2 | none => I.h b }
theorem Imm.adds_at {I : Imm} {C : Own} {p : Nat × Obj} (hnd : (C.map Prod.fst).Nodup) (hp : p ∈ C) : (I.adds C).h p.1 = some p.2 := by
  have : C.find? (fun q => q.1 == p.1) = some p := by
    induction C with
    | nil => cases hp
    | cons q C ih =>
      simp only [List.map_cons, List.nodup_cons] at hnd
      rcases List.mem_cons.1 hp with rfl | hp
      · simp
      · have hne : q.1 ≠ p.1 := fun e => hnd.1 (e ▸ List.mem_map_of_mem hp)
        rw [List.find?_cons_of_neg (by simpa using hne)]
        exact ih hnd.2 hp
  simp only [Imm.adds, this]
theorem Imm.adds_none {I : Imm} {C : Own} {b : Nat} (h : ∀ p ∈ C, p.1 ≠ b) : (I.adds C).h b = I.h b := by
  have : C.find? (fun q => q.1 == b) = none := List.find?_eq_none.2 fun q hq => by simpa using h q hq
  simp only [Imm.adds, this]
theorem Imm.le_adds {I : Imm} {C : Own} (hdj : ∀ p ∈ C, I.h p.1 = none) : I ≤ I.adds C :=
  ⟨fun b o hb => by rw [Imm.adds_none (fun p hp e => by rw [← e, hdj p hp] at hb; cases hb)]; exact hb, rfl, rfl, rfl, rfl⟩
theorem Holds.freeze {I : Imm} {C L : Own} {W : World} (h : Holds I (C ++ L) W) : Holds (I.adds C) L W ∧ I ≤ I.adds C := by
  have hnd := h.nd
  rw [List.map_append, List.nodup_append] at hnd
  refine ⟨⟨fun b o hb => ?_, fun p hp => h.own p (List.mem_append_right _ hp), hnd.2.1, fun p hp => ?_, h.os, h.tape, h.out, h.dr⟩, Imm.le_adds fun p hp => h.dj p (List.mem_append_left _ hp)⟩
  · by_cases hc : ∃ p ∈ C, p.1 = b
    · obtain ⟨p, hp, rfl⟩ := hc
      rw [Imm.adds_at hnd.1 hp] at hb
      cases hb
      exact h.own p (List.mem_append_left _ hp)
    · rw [Imm.adds_none (fun p hp e => hc ⟨p, hp, e⟩)] at hb
      exact h.imm b o hb
  · rw [Imm.adds_none (fun q hq e => hnd.2.2 q.1 (List.mem_map_of_mem hq) p.1 (List.mem_map_of_mem hp) e)]
    exact h.dj p (List.mem_append_right _ hp)

/-! ### 2. What is known of the frame -/
abbrev KV := List (Nat × Value)
structure Knows (N : Nat) (K : KV) (t : Array Value) : Prop where
  size : t.size = N
  kv : ∀ p ∈ K, t[p.1]? = some p.2

def kvGet : KV → Nat → Option Value
  | [], _ => none
  | (j, v) :: r, i => bif Nat.beq j i then some v else kvGet r i
def kvDel : KV → Nat → KV
  | [], _ => []
  | (j, v) :: r, i => bif Nat.beq j i then kvDel r i else (j, v) :: kvDel r i
def kvPut (K : KV) (d : Option Nat) (v : Value) : KV := match d with | none => K | some i => (i, v) :: kvDel K i
def kvDrop (K : KV) (d : Option Nat) : KV := match d with | none => K | some i => kvDel K i
def kvPick : List Nat → KV → Option KV
  | [], _ => some []
  | i :: r, K => match kvGet K i with
    | none => none
    | some v => match kvPick r K with
      | none => none
      | some K' => some ((i, v) :: K')
def kvOp (K : KV) : Operand → Option Value
  | .tmp i => kvGet K i
  | .const v => some v
  | .global g => some (.pointer (some ⟨g, 0, none⟩))
  | .func f => some (.func (.func f) #[] #[])
def kvVal (K : KV) (x : Operand) : Value := (kvOp K x).getD undef

theorem kvGet_mem {K : KV} {i : Nat} {v : Value} (h : kvGet K i = some v) : (i, v) ∈ K := by
  induction K with
  | nil => cases h
  | cons p K ih =>
    obtain ⟨j, u⟩ := p
    simp only [kvGet] at h
    cases hj : Nat.beq j i with
    | true =>
      rw [hj] at h
      simp only [cond_true, Option.some.injEq] at h
      have := Nat.eq_of_beq_eq_true hj
      subst this; subst h; simp
    | false =>
      rw [hj] at h
      exact List.mem_cons_of_mem _ (ih h)
theorem kvDel_mem {K : KV} {i : Nat} {p : Nat × Value} (h : p ∈ kvDel K i) : p ∈ K ∧ p.1 ≠ i := by
  induction K with
  | nil => cases h
  | cons q K ih =>
    obtain ⟨j, u⟩ := q
    simp only [kvDel] at h
    cases hj : Nat.beq j i with
    | true => rw [hj] at h; exact ⟨List.mem_cons_of_mem _ (ih h).1, (ih h).2⟩
    | false =>
      rw [hj] at h
      rcases List.mem_cons.1 h with rfl | h
      · exact ⟨by simp, Nat.ne_of_beq_eq_false hj⟩
      · exact ⟨List.mem_cons_of_mem _ (ih h).1, (ih h).2⟩
theorem kvPick_mem {l : List Nat} {K K' : KV} (h : kvPick l K = some K') : ∀ p ∈ K', p ∈ K := by
  induction l generalizing K' with
  | nil => simp only [kvPick, Option.some.injEq] at h; subst h; intro p hp; cases hp
  | cons i l ih =>
    simp only [kvPick] at h
    split at h
    · cases h
    · rename_i v hv
      split at h
      · cases h
      · rename_i K2 hK2
        simp only [Option.some.injEq] at h
        subst h
        intro p hp
        rcases List.mem_cons.1 hp with rfl | hp
        · exact kvGet_mem hv
        · exact ih hK2 p hp
theorem Knows.pick {N : Nat} {l : List Nat} {K K' : KV} {t : Array Value} (h : Knows N K t) (hp : kvPick l K = some K') : Knows N K' t :=
  ⟨h.size, fun p hm => h.kv p (kvPick_mem hp p hm)⟩
theorem Knows.op {N : Nat} {K : KV} {t : Array Value} (h : Knows N K t) {x : Operand} {v : Value} (hx : kvOp K x = some v) : (Act.mk t []).eval x = v := by
  cases x with
  | tmp i =>
    have := h.kv _ (kvGet_mem hx)
    simp only [Act.eval, Array.getD_eq_getD_getElem?]
    rw [this]; rfl
  | const u => simpa [kvOp, Act.eval] using hx
  | global g => simpa [kvOp, Act.eval] using hx
  | func f => simpa [kvOp, Act.eval] using hx
theorem Knows.put {N : Nat} {K : KV} {t : Array Value} (h : Knows N K t) (d : Option Nat) (v : Value) (hd : ∀ i, d = some i → i < N) :
    Knows N (kvPut K d v) ((Act.mk t []).put d v).tmps := by
  cases d with
  | none => exact h
  | some i =>
    refine ⟨by simp [Act.put, h.size], fun p hp => ?_⟩
    rcases List.mem_cons.1 hp with rfl | hp
    · simp [Act.put, h.size, hd i rfl]
    · obtain ⟨h1, h2⟩ := kvDel_mem hp
      simp only [Act.put]
      rw [Array.getElem?_setIfInBounds_ne (Ne.symm h2)]
      exact h.kv p h1
theorem Knows.forget {N : Nat} {K : KV} {t : Array Value} (h : Knows N K t) (d : Option Nat) (v : Value) :
    Knows N (kvDrop K d) ((Act.mk t []).put d v).tmps := by
  cases d with
  | none => exact h
  | some i =>
    refine ⟨by simp [Act.put, h.size], fun p hp => ?_⟩
    obtain ⟨h1, h2⟩ := kvDel_mem hp
    simp only [Act.put]
    rw [Array.getElem?_setIfInBounds_ne (Ne.symm h2)]
    exact h.kv p h1
theorem act_put_nil (t : Array Value) (d : Option Nat) (v : Value) : (Act.mk t []).put d v = Act.mk ((Act.mk t []).put d v).tmps [] := by
  cases d <;> rfl

/-! ### 3. Judgements -/
abbrev Post := Exit → Array Value → Imm → Own → Prop
abbrev TPost := Array Value → Imm → Own → Prop

def liftQ (Q : Post) : Exit → Act → World → Prop := fun e a W => a.defers = [] ∧ ∃ I L, Holds I L W ∧ Q e a.tmps I L
def GC (P : Program) (c : Code) (t : Array Value) (I : Imm) (L : Own) (Q : Post) : Prop :=
  ∀ W, Holds I L W → c.wp P (liftQ Q) ⟨t, []⟩ W
def GCk (P : Program) (c : Code) (N : Nat) (K : KV) (I : Imm) (L : Own) (Q : Post) : Prop := ∀ t, Knows N K t → GC P c t I L Q
def normalQ (Q : TPost) : Post := fun e t I L => match e with | .normal => Q t I L | _ => False
def GL (P : Program) (ops : Array Oper) (k : Nat) (t : Array Value) (I : Imm) (L : Own) (Q : TPost) : Prop :=
  ∀ W, Holds I L W → wpList P ops (liftQ (normalQ Q)) (ops.toList.drop k) ⟨t, []⟩ W
def GLk (P : Program) (ops : Array Oper) (k N : Nat) (K : KV) (I : Imm) (L : Own) (Q : TPost) : Prop := ∀ t, Knows N K t → GL P ops k t I L Q
def GE (e : Exit) (N : Nat) (K : KV) (I : Imm) (L : Own) (Q : Post) : Prop := ∀ t, Knows N K t → Q e t I L

def toC (P : Program) (c : Code) (Q : Post) : TPost := fun t I L => GC P c t I L Q
def atE (e : Exit) (Q : Post) : TPost := fun t I L => Q e t I L
def seqQ (K : TPost) (Q : Post) : Post := fun e t I L => match e with | .normal => K t I L | e => Q e t I L
def blockQ (id : Nat) (Q : Post) : Post := fun e t I L => match e with | .exit j => (bif Nat.beq j id then Q .normal t I L else Q (.exit j) t I L) | e => Q e t I L

/-! ### 4. Code -/
def isSeq : Code → Bool | .seq .. => true | _ => false
def isCond : Code → Bool | .cond .. => true | _ => false
def isBlock : Code → Bool | .block .. => true | _ => false
def isLoop : Code → Bool | .loop .. => true | _ => false
def isExit : Code → Bool | .exit .. => true | _ => false
def isRet : Code → Bool | .ret => true | _ => false
def isSkip : Code → Bool | .skip => true | _ => false
def isRegion (d : Bool) : Code → Bool | .region _ _ e => d == e | _ => false
def c1 : Code → Code | .seq a _ => a | .cond _ a _ => a | .block _ b => b | .loop b => b | .scope b => b | c => c
def c2 : Code → Code | .seq _ b => b | .cond _ _ b => b | c => c
def cCond : Code → Operand | .cond x _ _ => x | _ => .const undef
def cId : Code → Nat | .block i _ => i | .exit i => i | _ => 0
def cOps : Code → Array Oper | .region _ ops _ => ops | _ => #[]

section
variable {P : Program} {c : Code} {N : Nat} {K : KV} {I : Imm} {L : Own} {Q : Post} {t : Array Value}

theorem gc_conseq {I' : Imm} {L' : Own} (h : ∀ W, Holds I L W → Holds I' L' W) (k : GC P c t I' L' Q) : GC P c t I L Q := fun W hW => k W (h W hW)
theorem gk_conseq {I' : Imm} {L' : Own} (h : ∀ W, Holds I L W → Holds I' L' W) (k : GCk P c N K I' L' Q) : GCk P c N K I L Q := fun t ht => gc_conseq h (k t ht)
theorem gl_conseq {ops : Array Oper} {k : Nat} {T : TPost} {I' : Imm} {L' : Own} (h : ∀ W, Holds I L W → Holds I' L' W) (kk : GLk P ops k N K I' L' T) : GLk P ops k N K I L T := fun t ht W hW => kk t ht W (h W hW)
theorem gc_mono {Q' : Post} (hq : ∀ e t I L, Q' e t I L → Q e t I L) (k : GC P c t I L Q') : GC P c t I L Q := fun W hW =>
  wp_mono (k W hW) fun _ _ _ ⟨hd, I', L', hh, hQ⟩ => ⟨hd, I', L', hh, hq _ _ _ _ hQ⟩
theorem gk_pick (l : List Nat) {K' : KV} (hp : kvPick l K = some K') (k : GCk P c N K' I L Q) : GCk P c N K I L Q := fun t ht => k t (ht.pick hp)
theorem gl_pick {ops : Array Oper} {k : Nat} {T : TPost} (l : List Nat) {K' : KV} (hp : kvPick l K = some K') (kk : GLk P ops k N K' I L T) : GLk P ops k N K I L T := fun t ht => kk t (ht.pick hp)

theorem gc_seq (hk : isSeq c = true) (h : GC P (c1 c) t I L (seqQ (toC P (c2 c) Q) Q)) : GC P c t I L Q := by
  cases c <;> simp only [isSeq, Bool.false_eq_true] at hk
  rename_i a b
  intro W hW
  refine wp_seq (wp_mono (h W hW) ?_)
  rintro e a' W' ⟨hd, I', L', hh, hQ⟩
  cases e with
  | normal =>
    obtain ⟨tm, df⟩ := a'
    cases hd
    exact hQ W' hh
  | _ => exact ⟨hd, I', L', hh, hQ⟩
theorem gk_seq (hk : isSeq c = true) (h : GCk P (c1 c) N K I L (seqQ (toC P (c2 c) Q) Q)) : GCk P c N K I L Q := fun t ht => gc_seq hk (h t ht)
/-- Ways that meet again. -/
theorem gk_cut (Mid : TPost) (hk : isSeq c = true) (h : GCk P (c1 c) N K I L (seqQ Mid Q)) (h2 : ∀ t I' L', Mid t I' L' → GC P (c2 c) t I' L' Q) : GCk P c N K I L Q := fun t ht =>
  gc_seq hk (gc_mono (fun e t I L hq => by cases e <;> first | exact h2 _ _ _ hq | exact hq) (h t ht))
theorem gk_cond {b : Bool} (hk : isCond c = true) (hb : kvOp K (cCond c) = some (.bool b)) (ht : b = true → GCk P (c1 c) N K I L Q) (hf : b = false → GCk P (c2 c) N K I L Q) : GCk P c N K I L Q := by
  cases c <;> simp only [isCond, Bool.false_eq_true] at hk
  rename_i x a b'
  intro t hK W hW
  refine wp_cond_split (t := b) (hK.op hb) (fun h => ht h t hK W hW) (fun h => hf h t hK W hW)
theorem gk_block (hk : isBlock c = true) (h : GCk P (c1 c) N K I L (blockQ (cId c) Q)) : GCk P c N K I L Q := by
  cases c <;> simp only [isBlock, Bool.false_eq_true] at hk
  rename_i id b
  intro t hK W hW
  refine wp_block (wp_mono (h t hK W hW) ?_)
  rintro e a' W' ⟨hd, I', L', hh, hQ⟩
  cases e with
  | exit j =>
    simp only [blockQ, cId] at hQ
    simp only [Exit.inBlock]
    cases hj : Nat.beq j id with
    | true =>
      rw [hj] at hQ
      rw [if_pos (Nat.eq_of_beq_eq_true hj)]
      exact ⟨hd, I', L', hh, hQ⟩
    | false =>
      rw [hj] at hQ
      rw [if_neg (Nat.ne_of_beq_eq_false hj)]
      exact ⟨hd, I', L', hh, hQ⟩
  | _ => exact ⟨hd, I', L', hh, hQ⟩
theorem gk_exit (hk : isExit c = true) (h : GE (.exit (cId c)) N K I L Q) : GCk P c N K I L Q := by
  cases c <;> simp only [isExit, Bool.false_eq_true] at hk
  intro t hK W hW
  exact wp_exit ⟨rfl, I, L, hW, h t hK⟩
theorem gk_ret (hk : isRet c = true) (h : GE .ret N K I L Q) : GCk P c N K I L Q := by
  cases c <;> simp only [isRet, Bool.false_eq_true] at hk
  intro t hK W hW
  exact wp_ret ⟨rfl, I, L, hW, h t hK⟩
theorem gk_skip (hk : isSkip c = true) (h : GE .normal N K I L Q) : GCk P c N K I L Q := by
  cases c <;> simp only [isSkip, Bool.false_eq_true] at hk
  intro t hK W hW
  exact wp_skip ⟨rfl, I, L, hW, h t hK⟩
theorem gk_region (hk : isRegion false c = true) (h : GLk P (cOps c) 0 N K I L (atE .normal Q)) : GCk P c N K I L Q := by
  cases c <;> simp only [isRegion, Bool.false_eq_true] at hk
  rename_i id ops d
  cases d <;> simp at hk
  intro t hK W hW
  refine wp_mono (wp_region_list (by simpa [cOps] using h t hK W hW)) ?_
  rintro e a' W' ⟨hd, I', L', hh, hQ⟩
  cases e <;> first | exact ⟨hd, I', L', hh, hQ⟩ | exact hQ.elim
/-- A region at the head of a sequence. -/
theorem gk_sr (hk : isSeq c = true) (hr : isRegion false (c1 c) = true) (h : GLk P (cOps (c1 c)) 0 N K I L (toC P (c2 c) Q)) : GCk P c N K I L Q :=
  gk_seq hk (gk_region hr h)

theorem gk_join (Mid : TPost) (h : GCk P c N K I L (seqQ Mid Q)) (h2 : ∀ t I' L', Mid t I' L' → Q .normal t I' L') : GCk P c N K I L Q := fun t ht W hW =>
  wp_mono (h t ht W hW) fun e a W' ⟨hd, I', L', hh, hQ⟩ => ⟨hd, I', L', hh, by cases e <;> first | exact h2 _ _ _ hQ | exact hQ⟩
theorem gk_drop {L' : Own} (hs : L'.Sublist L) (k : GCk P c N K I L' Q) : GCk P c N K I L Q := gk_conseq (fun W h => h.sub hs) k
theorem gl_drop {ops : Array Oper} {k : Nat} {T : TPost} {L' : Own} (hs : L'.Sublist L) (kk : GLk P ops k N K I L' T) : GLk P ops k N K I L T := gl_conseq (fun W h => h.sub hs) kk
theorem gk_at {t : Array Value} (ht : Knows N K t) (k : GCk P c N K I L Q) : GC P c t I L Q := k t ht
theorem ge_seq {c : Code} (h : GCk P c N K I L Q) {Q' : Post} : GE .normal N K I L (seqQ (toC P c Q) Q') := h
theorem ge_mid {Mid : TPost} {Q' : Post} (h : ∀ t, Knows N K t → Mid t I L) : GE .normal N K I L (seqQ Mid Q') := h
theorem ge_seq_ret {T : TPost} (h : GE .ret N K I L Q) : GE .ret N K I L (seqQ T Q) := h
theorem ge_seq_exit {j : Nat} {T : TPost} (h : GE (.exit j) N K I L Q) : GE (.exit j) N K I L (seqQ T Q) := h
theorem ge_block_normal {id : Nat} (h : GE .normal N K I L Q) : GE .normal N K I L (blockQ id Q) := h
theorem ge_block_ret {id : Nat} (h : GE .ret N K I L Q) : GE .ret N K I L (blockQ id Q) := h
theorem ge_block_hit {id j : Nat} (hj : Nat.beq j id = true) (h : GE .normal N K I L Q) : GE (.exit j) N K I L (blockQ id Q) := fun t ht => by
  simp only [blockQ, hj, cond_true]; exact h t ht
theorem ge_block_miss {id j : Nat} (hj : Nat.beq j id = false) (h : GE (.exit j) N K I L Q) : GE (.exit j) N K I L (blockQ id Q) := fun t ht => by
  simp only [blockQ, hj, cond_false]; exact h t ht
theorem ge_pick {e : Exit} (l : List Nat) {K' : KV} (hp : kvPick l K = some K') (k : GE e N K' I L Q) : GE e N K I L Q := fun t ht => k t (ht.pick hp)
theorem ge_conseq_q {e : Exit} {Q' : Post} (k : ∀ t, Q' e t I L → Q e t I L) (h : GE e N K I L Q') : GE e N K I L Q := fun t ht => k t (h t ht)
end

/-! ### 5. Loops: a relation without a number of rounds, and a function that answers what it relates -/
inductive LoopR {σ ρ : Type} (body : σ → Option (σ ⊕ ρ)) : σ → ρ → Prop
  | done {s : σ} {r : ρ} : body s = some (.inr r) → LoopR body s r
  | step {s s' : σ} {r : ρ} : body s = some (.inl s') → LoopR body s' r → LoopR body s r
theorem LoopR.unique {σ ρ : Type} {body : σ → Option (σ ⊕ ρ)} {s : σ} {r r' : ρ} (h : LoopR body s r) (h' : LoopR body s r') : r = r' := by
  induction h with
  | done h1 =>
    cases h' with
    | done h2 => rw [h1] at h2; cases h2; rfl
    | step h2 _ => rw [h1] at h2; cases h2
  | step h1 _ ih =>
    cases h' with
    | done h2 => rw [h1] at h2; cases h2
    | step h2 h3 => rw [h1] at h2; cases h2; exact ih h3
open Classical in
/-- What a loop answers: none, where it never ends or a round has no answer. -/
noncomputable def loopO {σ ρ : Type} (body : σ → Option (σ ⊕ ρ)) (s : σ) : Option ρ := if h : ∃ r, LoopR body s r then some h.choose else none
theorem loopO_of {σ ρ : Type} {body : σ → Option (σ ⊕ ρ)} {s : σ} {r : ρ} (h : LoopR body s r) : loopO body s = some r := by
  have hx : ∃ r, LoopR body s r := ⟨r, h⟩
  unfold loopO
  rw [dif_pos hx, hx.choose_spec.unique h]
theorem loopR_of {σ ρ : Type} {body : σ → Option (σ ⊕ ρ)} {s : σ} {r : ρ} (h : loopO body s = some r) : LoopR body s r := by
  unfold loopO at h
  split at h
  · rename_i hx; cases h; exact hx.choose_spec
  · cases h
theorem loopO_eq {σ ρ : Type} (body : σ → Option (σ ⊕ ρ)) (s : σ) :
    loopO body s = (body s).bind fun o => match o with | .inl s' => loopO body s' | .inr r => some r := by
  cases hb : body s with
  | none =>
    cases hl : loopO body s with
    | none => rfl
    | some r => cases loopR_of hl with
      | done h => rw [hb] at h; cases h
      | step h _ => rw [hb] at h; cases h
  | some o =>
    cases o with
    | inr r => exact loopO_of (.done hb)
    | inl s' =>
      show loopO body s = loopO body s'
      cases hl : loopO body s' with
      | some r => exact loopO_of (.step hb (loopR_of hl))
      | none =>
        cases hl2 : loopO body s with
        | none => rfl
        | some r => cases loopR_of hl2 with
          | done h => rw [hb] at h; cases h
          | step h h' => rw [hb] at h; cases h; rw [loopO_of h'] at hl; cases hl

def roundQ {σ ρ : Type} (Inv : σ → TPost) (r : ρ) (Q : Post) (o : σ ⊕ ρ) : Post := fun e t I L => match o, e with
  | .inl s', .normal => Inv s' t I L
  | .inl _, _ => False
  | .inr _, .normal => False
  | .inr r', e => r' = r → Q e t I L
/-- The loop's wp, by induction over the pure loop's own rounds. -/
theorem gc_loop {P : Program} {c : Code} {Q : Post} {σ ρ : Type} (body : σ → Option (σ ⊕ ρ)) (Inv : σ → TPost) (hk : isLoop c = true) {r : ρ}
    (round : ∀ s o t I L, body s = some o → Inv s t I L → GC P (c1 c) t I L (roundQ Inv r Q o))
    {s : σ} (h : loopO body s = some r) {t : Array Value} {I : Imm} {L : Own} (h0 : Inv s t I L) : GC P c t I L Q := by
  cases c <;> simp only [isLoop, Bool.false_eq_true] at hk
  rename_i b
  intro W hW fr k cs
  have key : ∀ s r', LoopR body s r' → r' = r → ∀ t I L W, Inv s t I L → Holds I L W →
      ∃ e a' w', liftQ Q e a' w' ∧ Arrives P (lone (fr.at ⟨t, []⟩ (.code b :: .inLoop b :: k)) cs W) fr k cs e a' w' := by
    intro s r' hs
    induction hs with
    | @done s r' hb =>
      intro hrr t I L W h0 hW
      obtain ⟨e, a₁, w₁, ⟨hd, I', L', hh, hq⟩, harr⟩ := round s _ t I L hb h0 W hW fr (.inLoop b :: k) cs
      have hq' : e ≠ .normal ∧ Q e a₁.tmps I' L' := by
        cases e <;> first | exact hq.elim | exact ⟨by simp, hq hrr⟩
      exact ⟨e, a₁, w₁, ⟨hd, I', L', hh, hq'.2⟩, .pass (x := .inLoop b) rfl (fun _ _ => .inl hq'.1) harr⟩
    | @step s s' r' hb _ ih =>
      intro hrr t I L W h0 hW
      obtain ⟨e, a₁, w₁, ⟨hd, I', L', hh, hq⟩, harr⟩ := round s _ t I L hb h0 W hW fr (.inLoop b :: k) cs
      cases e with
      | normal =>
        obtain ⟨tm, df⟩ := a₁
        cases hd
        obtain ⟨e₂, a₂, w₂, hq₂, harr₂⟩ := ih hrr tm I' L' w₁ hq hh
        exact ⟨e₂, a₂, w₂, hq₂, .of_steps (Steps.trans harr (.one step_inLoop)) harr₂⟩
      | _ => exact hq.elim
  obtain ⟨e, a', w', hq, harr⟩ := key s r (loopR_of h) rfl t I L W h0 hW
  exact ⟨e, a', w', hq, .of_steps (.one step_loop) harr⟩
theorem ge_round {σ ρ : Type} {Inv : σ → TPost} {r : ρ} {Q : Post} {s' : σ} {N : Nat} {K : KV} {I : Imm} {L : Own} (h : ∀ t, Knows N K t → Inv s' t I L) : GE .normal N K I L (roundQ Inv r Q (.inl s')) := h
theorem ge_round_out {σ ρ : Type} {Inv : σ → TPost} {r r' : ρ} {Q : Post} {e : Exit} {N : Nat} {K : KV} {I : Imm} {L : Own} (h : r' = r → GE e N K I L Q) (he : e ≠ .normal) : GE e N K I L (roundQ Inv r Q (.inr r')) := fun t ht => by
  cases e <;> first | exact absurd rfl he | exact fun hr => h hr t ht
theorem ge_at {e : Exit} {N : Nat} {K : KV} {I : Imm} {L : Own} {Q : Post} {t : Array Value} (ht : Knows N K t) (h : GE e N K I L Q) : Q e t I L := h t ht

/-! ### 5b. The pure side -/
theorem bind_some {α β : Type} {e : Option α} {f : α → Option β} {r : β} (h : Option.bind e f = some r) : ∃ x, e = some x ∧ f x = some r := by
  cases e with
  | none => cases h
  | some x => exact ⟨x, rfl, h⟩
theorem cond_t {α : Type} {b : Bool} {x y z : α} (hb : b = true) (h : (bif b then x else y) = z) : x = z := by rw [hb] at h; exact h
theorem cond_f {α : Type} {b : Bool} {x y z : α} (hb : b = false) (h : (bif b then x else y) = z) : y = z := by rw [hb] at h; exact h
theorem scond_t {α : Type} {b : Bool} {x y z : α} (hb : b = true) (h : some (bif b then x else y) = some z) : some x = some z := by rw [hb] at h; exact h
theorem scond_f {α : Type} {b : Bool} {x y z : α} (hb : b = false) (h : some (bif b then x else y) = some z) : some y = some z := by rw [hb] at h; exact h
theorem some_inj {α : Type} {a b : α} (h : some a = some b) : a = b := Option.some.inj h

/-! ### 6. Calls -/
def CallsTo (P : Program) (f : FuncId) (args : Array Value) (I : Imm) (L : Own) (R : Value → Imm → Own → Prop) : Prop :=
  ∀ W, Holds I L W → Calls P f args W fun e W' => ∃ v I' L', e = .returned v ∧ I ≤ I' ∧ Holds I' L' W' ∧ R v I' L'
theorem CallsTo.mono {P : Program} {f : FuncId} {args : Array Value} {I : Imm} {L : Own} {R R' : Value → Imm → Own → Prop} (h : CallsTo P f args I L R)
    (k : ∀ v I' L', I ≤ I' → R v I' L' → R' v I' L') : CallsTo P f args I L R' := fun W hW =>
  (h W hW).mono fun _ _ ⟨v, I', L', he, hI, hh, hr⟩ => ⟨v, I', L', he, hI, hh, k _ _ _ hI hr⟩
def bodyQ (P : Program) (fn : Func) (I0 : Imm) (R : Value → Imm → Own → Prop) : Post := fun e t I L =>
  (match e with | .normal => True | .ret => True | _ => False) ∧ I0 ≤ I ∧ ∃ v, (∀ W, Holds I L W → (results fn t).run P W = .ok v W) ∧ R v I L
def argKV : Nat → List Value → KV
  | _, [] => []
  | i, v :: r => (i, v) :: argKV (i + 1) r
theorem argKV_get {l : List Value} : ∀ {i : Nat} {p : Nat × Value}, p ∈ argKV i l → i ≤ p.1 ∧ l[p.1 - i]? = some p.2 := by
  induction l with
  | nil => intro i p h; cases h
  | cons v l ih =>
    intro i p h
    rcases List.mem_cons.1 h with rfl | h
    · simp
    · obtain ⟨h1, h2⟩ := ih h
      refine ⟨by omega, ?_⟩
      rw [show p.1 - i = (p.1 - (i + 1)) + 1 from by omega]
      simpa using h2
theorem argKV_knows (args : List Value) (n : Nat) (hn : args.length ≤ n) : Knows n (argKV 0 args) (args.toArray ++ Array.replicate (n - args.toArray.size) undef) := by
  refine ⟨by simp; omega, fun p hp => ?_⟩
  have h := (argKV_get hp).2
  simp only [Nat.sub_zero] at h
  have hl : p.1 < args.length := (List.getElem?_eq_some_iff.1 h).1
  rw [Array.getElem?_append_left (by simpa using hl)]
  simpa using h
def bodyOf (fn : Func) : Code := fn.body.getD .skip
theorem callsTo_body {P : Program} {f : FuncId} {fn : Func} {args : List Value} {I : Imm} {L : Own} {R : Value → Imm → Own → Prop} {N : Nat}
    (hf : P.funcs[f]? = some fn) (hb : fn.body.isSome = true) (hN : fn.ntmps = N) (hl : Nat.ble args.length N = true)
    (h : GCk P (bodyOf fn) N (argKV 0 args) I L (bodyQ P fn I R)) : CallsTo P f args.toArray I L R := by
  intro W hW
  have hb' : fn.body = some (bodyOf fn) := by
    obtain ⟨c, hc⟩ := Option.isSome_iff_exists.1 hb
    simp [bodyOf, hc]
  refine calls_of_wp hf hb' ?_
  have hK := argKV_knows args N (Nat.le_of_ble_eq_true hl)
  rw [← hN] at hK
  refine wp_mono (h _ (hN ▸ hK) W hW) ?_
  rintro e a W' ⟨hd, I', L', hh, hm, hI, v, hr, hR⟩
  cases e with
  | normal => exact ⟨hd, v, hr W' hh, v, I', L', rfl, hI, hh, hR⟩
  | ret => exact ⟨hd, v, hr W' hh, v, I', L', rfl, hI, hh, hR⟩
  | _ => exact hm.elim
def packed : List Value → Value
  | [v] => v
  | l => .tuple l.toArray
end Go.GB
