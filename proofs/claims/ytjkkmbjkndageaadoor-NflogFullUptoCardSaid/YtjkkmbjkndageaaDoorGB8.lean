/- Frozen and lent memory; own blocks; results. -/
import Derived.Test.YtjkkmbjkndageaaDoorGB7
set_option linter.unusedVariables false
set_option linter.unusedSimpArgs false
namespace Go.GB

theorem Upd.set (g : Nat) (o o' : Obj) (B : Own) : Upd ((g, o) :: B) [(g, o)] [(g, o')] ((g, o') :: B) := Upd.head [(g, o)] [(g, o')] B
theorem Upd.rm1 (e : Nat × Obj) (B : Own) : Upd (e :: B) [e] [] B := Upd.head [e] [] B
theorem Upd.rmC (C B : Own) : Upd (C ++ B) C [] B := Upd.head C [] B
theorem Upd.selfC (C B : Own) : Upd (C ++ B) C C (C ++ B) := Upd.head C C B
theorem Upd.new (X B : Own) : Upd B [] X (X ++ B) := Upd.head [] X B

/-! ### 1. Parts that are taken out -/
structure Tk (L C R : Own) : Prop where
  p : L.Perm (C ++ R)
theorem Tk.nil (L : Own) : Tk L [] L := ⟨.refl _⟩
theorem Tk.step {L C L1 D R : Own} (u : Upd L C [] L1) (h : Tk L1 D R) : Tk L (C ++ D) R := by
  obtain ⟨R', p1, p2⟩ := u.perm
  refine ⟨p1.trans ?_⟩
  rw [List.append_assoc]
  refine List.Perm.append_left C ?_
  exact (by simpa using p2.symm : R'.Perm L1).trans h.p

def Has (J : Imm) (C : Own) : Prop := ∀ p ∈ C, J.h p.1 = some p.2
theorem Has.left {J : Imm} {C D : Own} (h : Has J (C ++ D)) : Has J C := fun p hp => h p (List.mem_append_left _ hp)
theorem Has.right {J : Imm} {C D : Own} (h : Has J (C ++ D)) : Has J D := fun p hp => h p (List.mem_append_right _ hp)
theorem Has.mono {I J : Imm} {C : Own} (h : Has I C) (hI : I ≤ J) : Has J C := fun p hp => hI.h _ _ (h p hp)
/-- What is laid to rest can be read. -/
theorem OwnS.rest {α : Type} {d : Kd α} {e : TypeId} {I J : Imm} {A : Option Addr} {c : Nat} {xs : List α} {C : Own} (h : OwnS d e I A c xs C) (hI : I ≤ J) (hC : Has J C) : RepS d J A c xs := by
  rcases h with ⟨rfl, rfl, rfl, rfl⟩ | ⟨g, cells, fz, rfl, rfl, _, h4, h5, h6, hm⟩
  · exact ⟨Nat.le_refl _, by simp [maxLen'], fun i x h => by simp at h⟩
  · refine ⟨h4, hm, fun i x hx => ?_⟩
    obtain ⟨l, hl, hr⟩ := h6.at_ i x hx
    refine ⟨_, l, rfl, d.mono hI hl, fun j v hj => ?_⟩
    have hb : J.h g = some (.cells cells e fz) := hC (g, Obj.cells cells e fz) (by simp)
    have hadd : ((⟨g, 0, none⟩ : Addr).add (i * d.n)).add j = ⟨g, i * d.n + j, none⟩ := by
      rw [add_add]; unfold Addr.add; split
      · rename_i h; rw [h]
      · simp
    rw [hadd]
    simp only [Imm.cell, hb]
    exact hr j v hj
theorem runAt_blk {J : Imm} {g : Nat} {cs : Array Value} {T : TypeId} {fz : Nat × Nat} (h : J.h g = some (.cells cs T fz)) : RunAt J ⟨g, 0, none⟩ cs.toList := fun j v hj => by
  have hadd : (⟨g, 0, none⟩ : Addr).add j = ⟨g, j, none⟩ := by unfold Addr.add; split <;> simp_all
  rw [hadd]
  simp only [Imm.cell, h]
  simpa using hj
theorem Has.blk {J : Imm} {g : Nat} {cs : Array Value} {T : TypeId} {fz : Nat × Nat} {D : Own} (h : Has J ((g, .cells cs T fz) :: D)) : RunAt J ⟨g, 0, none⟩ cs.toList := runAt_blk (h (g, .cells cs T fz) (by simp))
theorem Has.tail {J : Imm} {e : Nat × Obj} {D : Own} (h : Has J (e :: D)) : Has J D := fun p hp => h p (by simp [hp])

theorem Holds.take {I : Imm} {L C R : Own} {W : World} (h : Holds I L W) (t : Tk L C R) : Holds (I.adds C) R W ∧ I ≤ I.adds C ∧ Has (I.adds C) C := by
  have h1 := h.perm t.p
  have h2 := h1.freeze
  have hnd := h1.nd
  rw [List.map_append, List.nodup_append] at hnd
  exact ⟨h2.1, h2.2, fun p hp => Imm.adds_at hnd.1 hp⟩
/-- What was lent comes back. -/
theorem Holds.back {I J : Imm} {L C R : Own} {W W' : World} (h : Holds I L W) (t : Tk L C R) (hI : I ≤ J) (hC : Has J C) (h' : Holds J R W') : Holds I L W' := by
  have h1 := h.perm t.p
  refine Holds.perm ⟨fun b o hb => h'.imm b o (hI.h b o hb), fun p hp => ?_, h1.nd, h1.dj, by rw [h'.os, hI.os], by rw [h'.tape, hI.tape], by rw [h'.out, hI.out], by rw [← hI.dr]; exact h'.dr⟩ t.p.symm
  rcases List.mem_append.1 hp with hp | hp
  · exact h'.imm _ _ (hC p hp)
  · exact h'.own p hp

section
variable {P : Program} {c : Code} {ops : Array Oper} {k N : Nat} {K : KV} {I : Imm} {L C R : Own} {T : TPost} {Q : Post}
theorem gl_rest (t : Tk L C R) (kk : ∀ J, I ≤ J → Has J C → GLk P ops k N K J R T) : GLk P ops k N K I L T := fun tm ht W hW =>
  let ⟨h1, h2, h3⟩ := hW.take t
  kk _ h2 h3 tm ht W h1
theorem gk_rest (t : Tk L C R) (kk : ∀ J, I ≤ J → Has J C → GCk P c N K J R Q) : GCk P c N K I L Q := fun tm ht W hW =>
  let ⟨h1, h2, h3⟩ := hW.take t
  kk _ h2 h3 tm ht W h1
/-- A call to which a part of what is owned is lent; it answers without memory. -/
theorem gl_callB {f : FuncId} {args : Array Value} {r : Value} (t : Tk L C R) (h : callKV P ops k N K = some (f, args))
    (hc : ∀ J, I ≤ J → Has J C → CallsTo P f args J R (fun v I' L' => v = r ∧ R = L'))
    (kk : GLk P ops (k + 1) N (kvPut K (opAt ops k).dst r) I L T) : GLk P ops k N K I L T := by
  refine gl_call (R := fun v I' L' => v = r ∧ I' = I ∧ L' = L) h (fun W hW => ?_) (by rintro v I' L' _ ⟨rfl, rfl, rfl⟩; exact kk)
  obtain ⟨h1, h2, h3⟩ := hW.take t
  refine (hc _ h2 h3 W h1).mono ?_
  rintro e W' ⟨v, I', L', rfl, hI, hh, rfl, rfl⟩
  exact ⟨_, I, L, rfl, Imm.refl I, hW.back t (Imm.trans h2 hI) (h3.mono hI) hh, rfl, rfl, rfl⟩
theorem gl_callvB {fv : Value} {args : List Value} {r : Value} (t : Tk L C R) (h : callvKV ops k N K = some (fv, args))
    (hc : ∀ J, I ≤ J → Has J C → CallsV P fv args J R (fun v I' L' => v = r ∧ R = L'))
    (kk : GLk P ops (k + 1) N (kvPut K (opAt ops k).dst r) I L T) : GLk P ops k N K I L T := by
  intro tm ht W hW
  obtain ⟨h1, h2, h3⟩ := hW.take t
  obtain ⟨f, first, cap, hf, hcall, hcc⟩ := hc _ h2 h3
  refine gl_callv (R := fun v I' L' => v = r ∧ I' = I ∧ L' = L) h ⟨f, first, cap, hf, hcall, fun W hW => ?_⟩ (by rintro v I' L' _ ⟨rfl, rfl, rfl⟩; exact kk) tm ht W hW
  obtain ⟨h1', h2', h3'⟩ := hW.take t
  refine (hcc W h1').mono ?_
  rintro e W' ⟨v, I', L', rfl, hI, hh, rfl, rfl⟩
  exact ⟨_, I, L, rfl, Imm.refl I, hW.back t (Imm.trans h2' hI) (h3'.mono hI) hh, rfl, rfl, rfl⟩
/-- A quiet call, where order is drawn. -/
theorem gl_callQ {f : FuncId} {args : Array Value} {r : Value} (h : callKV P ops k N K = some (f, args)) (hc : CallsTo P f args I L (fun v I' L' => v = r ∧ L = L'))
    (kk : GLk P ops (k + 1) N (kvPut K (opAt ops k).dst r) I L T) : GLk P ops k N K I L T :=
  gl_call h hc (by rintro v I' L' hI ⟨rfl, rfl⟩; exact gl_conseq (fun W h => h.imm_le hI) kk)
theorem gl_callvQ {fv : Value} {args : List Value} {r : Value} (h : callvKV ops k N K = some (fv, args)) (hc : CallsV P fv args I L (fun v I' L' => v = r ∧ L = L'))
    (kk : GLk P ops (k + 1) N (kvPut K (opAt ops k).dst r) I L T) : GLk P ops k N K I L T :=
  gl_callv h hc (by rintro v I' L' hI ⟨rfl, rfl⟩; exact gl_conseq (fun W h => h.imm_le hI) kk)
/-- The address of an element, told ahead. -/
theorem RepS.ixAt {α : Type} {d : Kd α} {A : Option Addr} {c : Nat} {l : List α} {x : α} {i : Int} (hx : ix l i = some x) (hl : RepS d I A c l) : ∃ p cs, d.R I x cs ∧ RunAt I p cs ∧ ∃ a, A = some a ∧ p = a.add (i.toNat * d.n) := by
  obtain ⟨h0, h1, h2⟩ := ix_some hx
  obtain ⟨a, cs, rfl, hR, hr⟩ := hl.at_ _ _ h2
  exact ⟨_, cs, hR, hr, a, rfl, rfl⟩
theorem gl_indexAddrF {n : Nat} {T' e : TypeId} {xs xi : Operand} {A : Option Addr} {c len : Nat} {p : Addr} {kd : IntKind} {i : Int} (hA : ∃ a, A = some a ∧ p = a.add (i.toNat * n)) (h0 : 0 ≤ i) (h1 : i < (len : Int))
    (ho : (opAt ops k).op = .indexAddr T' xs xi) (h : readyKV ops k N K = true) (hs : kvOp K xs = some (.slice A len c)) (hi : kvOp K xi = some (.int kd i)) (hu : sliceElem P T' = some (e, n))
    (kk : GLk P ops (k + 1) N (kvPut K (opAt ops k).dst (.pointer (some p))) I L T) : GLk P ops k N K I L T := by
  obtain ⟨a, rfl, rfl⟩ := hA
  obtain ⟨hu1, hu2⟩ := sliceElem_spec hu
  refine gl_step h (fun t ht W hW => ?_) kk
  simp [execOp, ho, ht.op hs, ht.op hi, Instr.indexAt, asIntOf, run_underlying' hu1, h0, h1, hu2]
end
section
variable {K : KV} {I I0 : Imm} {L L0 : Own} {D : Dr} {s : List (Nat × Bool)}
/-- One that is left out where it would be alone on its way. -/
theorem gd_skip1 {i : Nat} (hw : kvWanted D.ops K (opAt D.ops i) = some false) (hd : dstOk D.N (opAt D.ops i).dst = true) (hc : CC I0 L0 I L) (kk : GDk D I0 L0 s (kvPut K (opAt D.ops i).dst undef) I L) : GDk D I0 L0 ((i, false) :: s) K I L := by
  intro t ht h1 h2 hsb listed inv hs W hW
  simp only [schedOk, cond_false, Bool.and_eq_true, beq_iff_eq] at hs
  obtain ⟨⟨hin, hr⟩, hs⟩ := hs
  have hin' : i < D.n := Nat.le_of_ble_eq_true hin
  refine ⟨by rw [hr]; simp, fun j hj => ?_⟩
  have hji : j = i := by rw [hr] at hj; simpa using hj
  subst hji
  obtain ⟨_, o, ho, _⟩ := mem_ready.1 hj
  have hsz : j < D.ops.size := (Array.getElem?_eq_some_iff.1 ho).1
  have ho' := getD_opAt hsz
  refine ⟨hin', ?_⟩
  unfold wpOp
  simp only [ho', kvWanted_sound ht hw, Bool.false_eq_true, if_false]
  refine ⟨I, L, L0, .inl rfl, hc, hW, ?_⟩
  rw [act_put_nil]
  exact kk _ (ht.put _ _ fun m hm => by rw [hm] at hd; exact Nat.le_of_ble_eq_true hd) h1 h2 hsb _ (inv.set hj hin') hs
end
end Go.GB
