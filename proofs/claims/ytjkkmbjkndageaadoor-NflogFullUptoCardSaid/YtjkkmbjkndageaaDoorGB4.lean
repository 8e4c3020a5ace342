/- Memory of the call's own: blocks that are made, read and written; slices that grow. -/
import Derived.Test.YtjkkmbjkndageaaDoorGB3
import Derived.Deep.AppendSrc
set_option linter.unusedVariables false
set_option linter.unusedSimpArgs false
namespace Go.GB

/-! ### 1. A part of what is owned turns -/
inductive Upd : Own → Own → Own → Own → Prop
  | head (C C' B : Own) : Upd (C ++ B) C C' (C' ++ B)
  | one (e : Nat × Obj) {L C C' L' : Own} : Upd L C C' L' → Upd (e :: L) C C' (e :: L')
  | app (A : Own) {L C C' L' : Own} : Upd L C C' L' → Upd (A ++ L) C C' (A ++ L')
theorem Upd.at_ (g : Nat) (o : Obj) (C' B : Own) : Upd ((g, o) :: B) [(g, o)] C' (C' ++ B) := Upd.head [(g, o)] C' B
theorem Upd.perm {L C C' L' : Own} (h : Upd L C C' L') : ∃ R, L.Perm (C ++ R) ∧ L'.Perm (C' ++ R) := by
  induction h with
  | head C C' B => exact ⟨B, .refl _, .refl _⟩
  | one e _ ih =>
    obtain ⟨R, h1, h2⟩ := ih
    exact ⟨e :: R, (h1.cons e).trans (List.perm_middle.symm), (h2.cons e).trans (List.perm_middle.symm)⟩
  | app A _ ih =>
    obtain ⟨R, h1, h2⟩ := ih
    refine ⟨A ++ R, (h1.append_left A).trans ?_, (h2.append_left A).trans ?_⟩ <;>
    · rw [← List.append_assoc, ← List.append_assoc]; exact List.perm_append_comm.append_right R
theorem Holds.upd {I : Imm} {L C C' L' : Own} {W : World} (h : Holds I L W) (u : Upd L C C' L') : ∃ R, Holds I (C ++ R) W ∧ ∀ J W', Holds J (C' ++ R) W' → Holds J L' W' := by
  obtain ⟨R, h1, h2⟩ := u.perm
  exact ⟨R, h.perm h1, fun J W' h' => h'.perm h2.symm⟩
theorem Holds.mem {I : Imm} {L : Own} {W : World} (h : Holds I L W) {g : Nat} {o : Obj} (hm : (g, o) ∈ L) : W.heap[g]? = some o := h.own _ hm

/-- What is owned, put in another order, some of it forgotten. -/
inductive Reord : Own → Own → Prop
  | refl (L : Own) : Reord L L
  | skip {e : Nat × Obj} {L D : Own} : Reord L D → Reord (e :: L) D
  | skipC {C L D : Own} : Reord L D → Reord (C ++ L) D
  | step {L C L1 D : Own} : Upd L C [] L1 → Reord L1 D → Reord L (C ++ D)
theorem Reord.step1 {L : Own} {e : Nat × Obj} {L1 D : Own} (u : Upd L [e] [] L1) (h : Reord L1 D) : Reord L (e :: D) := Reord.step (C := [e]) u h
theorem Holds.reordAt {I : Imm} {W : World} {L D : Own} (r : Reord L D) : ∀ A : Own, Holds I (A ++ L) W → Holds I (A ++ D) W := by
  induction r with
  | refl L => exact fun A h => h
  | skip _ ih => exact fun A h => ih A (h.sub (List.Sublist.append_left (List.sublist_cons_self _ _) A))
  | skipC _ ih => exact fun A h => ih A (h.sub (List.Sublist.append_left (List.sublist_append_right _ _) A))
  | @step L C L1 D hU _ ih =>
    intro A h
    obtain ⟨R, p1, p2⟩ := hU.perm
    have p3 : L.Perm (C ++ L1) := p1.trans (List.Perm.append_left C (by simpa using p2.symm))
    have h1 : Holds I ((A ++ C) ++ L1) W := by rw [List.append_assoc]; exact h.perm (p3.append_left A)
    have h2 := ih (A ++ C) h1
    rwa [List.append_assoc] at h2
theorem Holds.reord {I : Imm} {L D : Own} {W : World} (h : Holds I L W) (r : Reord L D) : Holds I D W := Holds.reordAt r [] h
section
variable {P : Program} {c : Code} {N : Nat} {K : KV} {I : Imm} {L D : Own} {Q : Post}
theorem gk_reord (r : Reord L D) (k : GCk P c N K I D Q) : GCk P c N K I L Q := gk_conseq (fun W h => h.reord r) k
theorem gl_reord {ops : Array Oper} {k : Nat} {T : TPost} (r : Reord L D) (kk : GLk P ops k N K I D T) : GLk P ops k N K I L T := gl_conseq (fun W h => h.reord r) kk
end

/-! ### 2. Stores -/
def putSeg : Array Value → Nat → List Value → Array Value
  | cur, _, [] => cur
  | cur, o, v :: r => putSeg (cur.setIfInBounds o v) (o + 1) r
theorem putSeg_size (vs : List Value) : ∀ (cur : Array Value) (o : Nat), (putSeg cur o vs).size = cur.size := by
  induction vs with
  | nil => intro cur o; rfl
  | cons v r ih => intro cur o; rw [putSeg, ih]; simp
theorem putSeg_get (vs : List Value) : ∀ (cur : Array Value) (o : Nat), o + vs.length ≤ cur.size → ∀ j, (putSeg cur o vs)[j]? = if o ≤ j ∧ j < o + vs.length then vs[j - o]? else cur[j]? := by
  induction vs with
  | nil => intro cur o _ j; rw [if_neg (by simp)]; rfl
  | cons v r ih =>
    intro cur o h j
    simp only [List.length_cons] at h
    rw [putSeg, ih _ _ (by simp; omega) j]
    simp only [List.length_cons]
    by_cases h1 : o + 1 ≤ j ∧ j < o + 1 + r.length
    · rw [if_pos h1, if_pos (by omega), show j - o = (j - (o + 1)) + 1 from by omega]; simp
    · rw [if_neg h1]
      by_cases h2 : j = o
      · subst h2
        rw [if_pos (by omega), Nat.sub_self]
        simp [show j < cur.size by omega]
      · rw [if_neg (by omega), Array.getElem?_setIfInBounds_ne (Ne.symm h2)]
/-- No cell of it is frozen. -/
def FreeOf (fz : Nat × Nat) (n : Nat) : Prop := ∀ j, j < n → ¬ (fz.1 ≤ j ∧ j < fz.2)
theorem FreeOf.zero (n : Nat) : FreeOf (0, 0) n := fun j _ h => by simp at h
theorem store_block {P : Program} {g : Nat} {t : TypeId} {fz : Nat × Nat} (vs : List Value) : ∀ (o i : Nat) (cur : Array Value) (w : World), w.heap[g]? = some (.cells cur t fz) → FreeOf fz cur.size →
    o + i + vs.length ≤ cur.size → (∀ v ∈ vs, v.oneCell' = true) →
    ∃ w', (storeCells ⟨g, o, none⟩ vs i).run P w = .ok () w' ∧ w'.heap[g]? = some (.cells (putSeg cur (o + i) vs) t fz) ∧ (∀ b, b ≠ g → w'.heap[b]? = w.heap[b]?) ∧ w'.os = w.os ∧ w'.tape = w.tape ∧ w'.output = w.output ∧ w.drawn ≤ w'.drawn := by
  induction vs with
  | nil => intro o i cur w hg _ _ _; exact ⟨w, by simp [storeCells], hg, fun _ _ => rfl, rfl, rfl, rfl, Nat.le_refl _⟩
  | cons v r ih =>
    intro o i cur w hg hfz hl h1
    simp only [List.length_cons] at hl
    have hadd : (⟨g, o, none⟩ : Addr).add i = ⟨g, o + i, none⟩ := by
      unfold Addr.add; split
      · rename_i h; subst h; simp
      · rfl
    have hcell : w.cell? ⟨g, o + i, none⟩ = some (cur[o + i]'(by omega)) := by
      simp only [World.cell?, hg]; simp [show o + i < cur.size by omega]
    have hfr : w.frozen? ⟨g, o + i, none⟩ = false := by
      simp only [World.frozen?, hg]
      have := hfz (o + i) (by omega)
      simp only [Bool.and_eq_false_iff, decide_eq_false_iff_not]
      omega
    have hrun : (store ((⟨g, o, none⟩ : Addr).add i) v).run P w = .ok () (w.setCell ⟨g, o + i, none⟩ v) := by
      rw [hadd, run_store P w _ v .plain (h1 v (by simp)), hcell]; simp [hfr]
    have hg' : (w.setCell ⟨g, o + i, none⟩ v).heap[g]? = some (.cells (cur.setIfInBounds (o + i) v) t fz) := by
      simp only [World.setCell, Array.getElem?_modify, if_true, hg, Option.map_some]; rfl
    obtain ⟨w', h2, h3, h4, h5, h6, h7⟩ := ih o (i + 1) (cur.setIfInBounds (o + i) v) (w.setCell ⟨g, o + i, none⟩ v) hg' (by simpa using hfz) (by simp; omega) (fun u hu => h1 u (by simp [hu]))
    refine ⟨w', ?_, ?_, fun b hb => ?_, h5, h6, h7⟩
    · simp only [storeCells, Sem.run_bind, hrun, Result.andThen_ok, h2]
    · rw [h3, putSeg, show o + (i + 1) = o + i + 1 from by omega]
    · rw [h4 b hb]
      simp only [World.setCell, Array.getElem?_modify]
      rw [if_neg (fun e => hb e.symm)]

section
variable {P : Program} {ops : Array Oper} {k N : Nat} {K : KV} {I : Imm} {L : Own} {T : TPost}

/-- One operation: told by what its run leaves. -/
theorem gl_gen (h : readyKV ops k N K = true)
    (hv : ∀ t, Knows N K t → ∀ W, Holds I L W → ∃ v I' L' W', (execOp (Act.mk t []).eval (opAt ops k)).run P W = .ok (.value v) W' ∧ Holds I' L' W' ∧ GLk P ops (k + 1) N (kvPut K (opAt ops k).dst v) I' L' T) :
    GLk P ops k N K I L T := by
  obtain ⟨hk, hw, hd⟩ := readyKV_spec h
  intro t ht W hW
  rw [drop_at hk]
  unfold wpList
  rw [if_pos (kvWanted_sound ht hw)]
  refine .inl ?_
  obtain ⟨v, I', L', W', hr, hh, kk⟩ := hv t ht W hW
  unfold Oper.wp
  rw [hr]
  show wpList P ops _ _ (Act.put ⟨t, []⟩ (opAt ops k).dst v) W'
  rw [act_put_nil]
  exact kk _ (ht.put _ _ hd) W' hh
theorem gl_gen_skip (h : readyKV ops k N K = true)
    (hv : ∀ t, Knows N K t → ∀ W, Holds I L W → ∃ I' L' W', (execOp (Act.mk t []).eval (opAt ops k)).run P W = .ok .skip W' ∧ Holds I' L' W' ∧ GLk P ops (k + 1) N (kvPut K (opAt ops k).dst undef) I' L' T) :
    GLk P ops k N K I L T := by
  obtain ⟨hk, hw, hd⟩ := readyKV_spec h
  intro t ht W hW
  rw [drop_at hk]
  unfold wpList
  rw [if_pos (kvWanted_sound ht hw)]
  refine .inl ?_
  obtain ⟨I', L', W', hr, hh, kk⟩ := hv t ht W hW
  unfold Oper.wp
  rw [hr]
  show wpList P ops _ _ (Act.put ⟨t, []⟩ (opAt ops k).dst undef) W'
  rw [act_put_nil]
  exact kk _ (ht.put _ _ hd) W' hh

/-! ### 3. New blocks -/
def zeroCells' (P : Program) (T : TypeId) : Option (Array Value) := match P.info? T with
  | some i => match i.zero with
    | some z => some z.cells
    | none => none
  | none => none
theorem run_newObj' (o : Obj) (W : World) : (newObj o).run P W = .ok W.heap.size { W with heap := W.heap.push o } := rfl
theorem gl_alloc {T' : TypeId} {cs : Array Value} (ho : (opAt ops k).op = .alloc T') (h : readyKV ops k N K = true) (hz : zeroCells' P T' = some cs)
    (kk : ∀ g, GLk P ops (k + 1) N (kvPut K (opAt ops k).dst (.pointer (some ⟨g, 0, none⟩))) I ((g, .cells cs T') :: L) T) : GLk P ops k N K I L T := by
  refine gl_gen h fun t ht W hW => ⟨_, I, _, _, ?_, hW.new (.cells cs T'), kk W.heap.size⟩
  unfold zeroCells' at hz
  split at hz
  · rename_i i hi
    split at hz
    · rename_i z hz'
      simp only [Option.some.injEq] at hz
      subst hz
      simp [execOp, ho, Instr.alloc, zeroValue, typeInfo, hi, hz', newVar, newRow]
    · cases hz
  · cases hz
theorem gl_box {T' : TypeId} {x : Operand} {v : Value} {cs : Array Value} (ho : (opAt ops k).op = .box T' x) (h : readyKV ops k N K = true) (hx : kvOp K x = some v) (hc : v.cells = cs)
    (kk : ∀ g, GLk P ops (k + 1) N (kvPut K (opAt ops k).dst (.pointer (some ⟨g, 0, none⟩))) I ((g, .cells cs T') :: L) T) : GLk P ops k N K I L T := by
  refine gl_gen h fun t ht W hW => ⟨_, I, _, _, ?_, hW.new (.cells cs T'), kk W.heap.size⟩
  simp [execOp, ho, Instr.box, ht.op hx, newVar, newRow, hc]
def partsKV (K : KV) : List (Nat × Operand) → Option (List (Nat × Value))
  | [] => some []
  | (i, x) :: r => match kvOp K x, partsKV K r with
    | some v, some l => some ((i, v) :: l)
    | _, _ => none
theorem partsKV_map {t : Array Value} (h : Knows N K t) : ∀ {ps : List (Nat × Operand)} {l : List (Nat × Value)}, partsKV K ps = some l → ps.map (fun (i, x) => (i, (Act.mk t []).eval x)) = l := by
  intro ps
  induction ps with
  | nil => intro l h; simp only [partsKV, Option.some.injEq] at h; subst h; rfl
  | cons p ps ih =>
    obtain ⟨i, x⟩ := p
    intro l hl
    simp only [partsKV] at hl
    split at hl
    · rename_i v l' hv hl'
      simp only [Option.some.injEq] at hl
      subst hl
      rw [List.map_cons, ih hl']
      simp only [h.op hv]
    · cases hl
def rowCells (P : Program) (e size len : Nat) (parts : List (Nat × Value)) : Option (Array Value) :=
  match zeroCells' P e with
  | some z => bif Nat.ble (len * size) 16777216 && !(Nat.beq (len * size) 0) then Instr.fill (fun i => some (i * size, size)) ((Array.range (len * size)).map (z[· % z.size]!)) parts else none
  | none => none
theorem gl_buildSlice {T' e n len : Nat} {parts : Array (Nat × Operand)} {l : List (Nat × Value)} {cs : Array Value} (ho : (opAt ops k).op = .buildSlice T' len parts) (h : readyKV ops k N K = true)
    (he : sliceElem P T' = some (e, n)) (hp : partsKV K parts.toList = some l) (hc : rowCells P e n len l = some cs)
    (kk : ∀ g, GLk P ops (k + 1) N (kvPut K (opAt ops k).dst (.slice (some ⟨g, 0, none⟩) len len)) I ((g, .cells cs e) :: L) T) : GLk P ops k N K I L T := by
  refine gl_gen h fun t ht W hW => ⟨_, I, _, _, ?_, hW.new (.cells cs e), kk W.heap.size⟩
  obtain ⟨hu1, hu2⟩ := sliceElem_spec he
  unfold rowCells zeroCells' at hc
  split at hc <;> try (cases hc; done)
  rename_i z hz
  split at hz <;> try (cases hz; done)
  rename_i i hi
  split at hz <;> try (cases hz; done)
  rename_i z0 hz0
  simp only [Option.some.injEq] at hz
  subst hz
  cases hb : (Nat.ble (len * n) 16777216 && !(Nat.beq (len * n) 0)) with
  | false => rw [hb] at hc; cases hc
  | true =>
    rw [hb] at hc
    simp only [cond_true] at hc
    simp only [Bool.and_eq_true, Bool.not_eq_true'] at hb
    have h1 : ¬ (16777216 < len * n) := by have := Nat.le_of_ble_eq_true hb.1; omega
    have h2 : ¬ (len * n = 0) := Nat.ne_of_beq_eq_false hb.2
    have hpp : (parts.map fun x => match x with | (i, x) => (i, (Act.mk t []).eval x)).toList = l := by
      rw [Array.toList_map]; exact partsKV_map ht hp
    simp only [execOp, ho, Instr.buildSlice, Sem.run_bind, run_underlying' hu1, Result.andThen_ok, hu2, hpp]
    simp [h1, h2, zeroValue, typeInfo, hi, hz0, hc, newRow]

/-! ### 4. Blocks of the call's own -/
def loadVal (P : Program) (T' : TypeId) (cs : Array Value) (off : Nat) : Option Value :=
  match aggInfo P T' with
  | some (false, _) => cs[off]?
  | some (true, n) => bif Nat.ble (off + n) cs.size then some (.agg (cs.extract off (off + n))) else none
  | none => none
theorem loadVal_run {T' : TypeId} {cs : Array Value} {off : Nat} {v : Value} {g : Nat} {e : TypeId} {fz : Nat × Nat} {W : World} (h : loadVal P T' cs off = some v) (hg : W.heap[g]? = some (.cells cs e fz)) :
    (loadVar T' ⟨g, off, none⟩).run P W = .ok v W := by
  have hc : ∀ j, W.cell? ⟨g, j, none⟩ = cs[j]? := fun j => by simp [World.cell?, hg]
  unfold loadVal at h
  split at h
  · rename_i n hT; exact loadVar_one hT (by rw [hc]; exact h)
  · rename_i n hT
    cases hb : Nat.ble (off + n) cs.size with
    | false => rw [hb] at h; cases h
    | true =>
      rw [hb] at h
      simp only [cond_true, Option.some.injEq] at h
      have hle := Nat.le_of_ble_eq_true hb
      subst h
      have hl : (cs.extract off (off + n)).toList.length = n := by rw [Array.length_toList]; simp; omega
      have := loadVar_agg (P := P) (W := W) (a := ⟨g, off, none⟩) (cs := (cs.extract off (off + n)).toList) (by rw [hl]; exact hT) (fun j u hj => by
        have hj' : j < n := by have := (List.getElem?_eq_some_iff.1 hj).1; omega
        have hadd : (⟨g, off, none⟩ : Addr).add j = ⟨g, off + j, none⟩ := by
          unfold Addr.add; split
          · rename_i h; subst h; simp
          · rfl
        rw [hadd, hc]
        rw [Array.getElem?_toList, Array.getElem?_extract] at hj
        simpa [show j < n by omega, show j < min (off + n) cs.size - off by omega] using hj)
      rwa [Array.toArray_toList] at this
  · cases h
theorem gl_loadB {T' : TypeId} {xp : Operand} {g off : Nat} {cs : Array Value} {e : TypeId} {fz : Nat × Nat} {v : Value} (ho : (opAt ops k).op = .load T' xp) (h : readyKV ops k N K = true)
    (hp : kvOp K xp = some (.pointer (some ⟨g, off, none⟩))) (hm : (g, Obj.cells cs e fz) ∈ L) (hv : loadVal P T' cs off = some v)
    (kk : GLk P ops (k + 1) N (kvPut K (opAt ops k).dst v) I L T) : GLk P ops k N K I L T := by
  refine gl_step h (fun t ht W hW => ?_) kk
  simp [execOp, ho, ht.op hp, Instr.loadAt, Instr.sureAddr, loadVal_run hv (hW.mem hm)]
def storeVal (P : Program) (T' : TypeId) (cs : Array Value) (off : Nat) (v : Value) : Option (Array Value) :=
  match aggInfo P T' with
  | some (_, n) => bif Nat.beq v.cells.size n && Nat.ble (off + n) cs.size && v.cells.toList.all Value.oneCell' then some (putSeg cs off v.cells.toList) else none
  | none => none
theorem gl_storeB {T' : TypeId} {xp xv : Operand} {g off : Nat} {cs cs' : Array Value} {e : TypeId} {v : Value} {L' : Own} (ho : (opAt ops k).op = .store T' xp xv) (h : readyKV ops k N K = true)
    (hp : kvOp K xp = some (.pointer (some ⟨g, off, none⟩))) (hx : kvOp K xv = some v) (hv : storeVal P T' cs off v = some cs') (hU : Upd L [(g, Obj.cells cs e)] [(g, Obj.cells cs' e)] L')
    (kk : GLk P ops (k + 1) N K I L' T) (hd : (opAt ops k).dst = none) : GLk P ops k N K I L T := by
  refine gl_gen_skip h fun t ht W hW => ?_
  obtain ⟨R, h1, h2⟩ := hW.upd hU
  unfold storeVal at hv
  split at hv <;> try (cases hv; done)
  rename_i b n hT
  cases hb : (Nat.beq v.cells.size n && Nat.ble (off + n) cs.size && v.cells.toList.all Value.oneCell') with
  | false => rw [hb] at hv; cases hv
  | true =>
    rw [hb] at hv
    simp only [cond_true, Option.some.injEq] at hv
    simp only [Bool.and_eq_true, List.all_eq_true] at hb
    obtain ⟨⟨hb1, hb2⟩, hb3⟩ := hb
    have hn : v.cells.size = n := Nat.eq_of_beq_eq_true hb1
    have hle := Nat.le_of_ble_eq_true hb2
    subst hv
    obtain ⟨W', hs, hg, hne, ho1, ho2, ho3⟩ := store_block (P := P) (g := g) (t := e) (fz := (0, 0)) v.cells.toList off 0 cs W (h1.mem (by simp)) (FreeOf.zero _) (by rw [Array.length_toList]; omega) hb3
    refine ⟨I, L', W', ?_, h2 I W' ?_, by rw [hd]; exact kk⟩
    · simp [execOp, ho, ht.op hp, ht.op hx, Instr.storeAt, Instr.sureAddr, storeVar, (aggInfo_spec hT).2, hn, hs]
    · exact Holds.set (A := []) h1 _ (by simpa using hg) hne ho1 ho2 ho3
end

/-! ### 5. Slices of the call's own -/
structure RowAt {α : Type} (d : Kd α) (I : Imm) (xs : List α) (cs : Nat → Option Value) : Prop where
  at_ : ∀ i x, xs[i]? = some x → ∃ l, d.R I x l ∧ ∀ j v, l[j]? = some v → cs (i * d.n + j) = some v
theorem RowAt.mono {α : Type} {d : Kd α} {I J : Imm} {xs : List α} {cs : Nat → Option Value} (h : RowAt d I xs cs) (hI : I ≤ J) : RowAt d J xs cs :=
  ⟨fun i x hx => let ⟨l, h1, h2⟩ := h.at_ i x hx; ⟨l, d.mono hI h1, h2⟩⟩
/-- A slice ('.slice A xs.length c') whose row the call owns: C is its block, or nothing. -/
def OwnS {α : Type} (d : Kd α) (e : TypeId) (I : Imm) (A : Option Addr) (c : Nat) (xs : List α) (C : Own) : Prop :=
  (xs = [] ∧ c = 0 ∧ C = [] ∧ A = none) ∨
  ∃ g cells fz, A = some ⟨g, 0, none⟩ ∧ C = [(g, .cells cells e fz)] ∧ FreeOf fz cells.size ∧ xs.length ≤ c ∧ cells.size = c * d.n ∧ RowAt d I xs (fun j => cells[j]?) ∧ xs.length ≤ maxLen'
theorem OwnS.nil {α : Type} (d : Kd α) (e : TypeId) (I : Imm) (A : Option Addr) (hA : A = none := by rfl) : OwnS d e I A 0 [] [] := .inl ⟨rfl, rfl, rfl, hA⟩
theorem OwnS.mono {α : Type} {d : Kd α} {e : TypeId} {I J : Imm} {A : Option Addr} {c : Nat} {xs : List α} {C : Own} (h : OwnS d e I A c xs C) (hI : I ≤ J) : OwnS d e J A c xs C := by
  rcases h with h | ⟨g, cells, fz, h1, h2, h3, h4, h5, h6, h7⟩
  · exact .inl h
  · exact .inr ⟨g, cells, fz, h1, h2, h3, h4, h5, h6.mono hI, h7⟩
theorem OwnS.max {α : Type} {d : Kd α} {e : TypeId} {I : Imm} {A : Option Addr} {c : Nat} {xs : List α} {C : Own} (h : OwnS d e I A c xs C) : xs.length ≤ maxLen' := by
  rcases h with ⟨rfl, _, _⟩ | ⟨g, cells, fz, h1, h2, h3, h4, h5, h6, h7⟩
  · simp [maxLen']
  · exact h7
/-- It is laid to rest: what was owned is read from now on. -/
theorem OwnS.freeze {α : Type} {d : Kd α} {e : TypeId} {I : Imm} {A : Option Addr} {c : Nat} {xs : List α} {C : Own} (h : OwnS d e I A c xs C) (hI : I ≤ I.adds C) : RepS d (I.adds C) A c xs := by
  rcases h with ⟨rfl, rfl, rfl, rfl⟩ | ⟨g, cells, fz, rfl, rfl, _, h4, h5, h6, hm⟩
  · exact ⟨Nat.le_refl _, by simp [maxLen'], fun i x h => by simp at h⟩
  · refine ⟨h4, hm, fun i x hx => ?_⟩
    obtain ⟨l, hl, hr⟩ := h6.at_ i x hx
    refine ⟨_, l, rfl, d.mono hI hl, fun j v hj => ?_⟩
    have hb : (I.adds [(g, Obj.cells cells e fz)]).h g = some (.cells cells e fz) := Imm.adds_at (p := (g, Obj.cells cells e fz)) (by simp) (by simp)
    have hadd : ((⟨g, 0, none⟩ : Addr).add (i * d.n)).add j = ⟨g, i * d.n + j, none⟩ := by
      rw [add_add]; unfold Addr.add; split
      · rename_i h; rw [h]
      · simp
    rw [hadd]
    simp only [Imm.cell, hb]
    exact hr j v hj

section
variable {P : Program} {ops : Array Oper} {k N : Nat} {K : KV} {I : Imm} {L : Own} {T : TPost}
theorem gl_freeze {α : Type} {d : Kd α} {e : TypeId} {A : Option Addr} {c : Nat} {xs : List α} {C L' : Own} (hO : OwnS d e I A c xs C) (hU : Upd L C [] L')
    (kk : ∀ I', I ≤ I' → RepS d I' A c xs → GLk P ops k N K I' L' T) : GLk P ops k N K I L T := by
  intro t ht W hW
  obtain ⟨R, h1, h2⟩ := hW.upd hU
  obtain ⟨h3, h4⟩ := h1.freeze
  exact kk _ h4 (hO.freeze h4) t ht W (h2 _ W (by simpa using h3))
end
end Go.GB
