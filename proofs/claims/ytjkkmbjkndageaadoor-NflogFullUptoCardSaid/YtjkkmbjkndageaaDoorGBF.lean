/- Rows of slices whose own rows are new: known whole, not among what was known before, to be written again. -/
import Derived.Test.YtjkkmbjkndageaaDoorGB26
set_option linter.unusedVariables false
set_option linter.unusedSimpArgs false
namespace Go.GB
open Go.RowKit
/-- A new row at rest. -/
def FrRow (w : Nat) (e : TypeId) (J0 I : Imm) (A : Option Addr) (n : Nat) : Prop := n = 0 ∨ ∃ g cells fz, A = some ⟨g, 0, none⟩ ∧ I.h g = some (.cells cells e fz) ∧ FreeOf fz cells.size ∧ n * w ≤ cells.size ∧ J0.h g = none
namespace Kd
def fr {α : Type} (J0 : Imm) (d : Kd α) (e : TypeId) : Kd (List α) := ⟨1, fun I xs cs => ∃ A c, cs = [.slice A xs.length c] ∧ RepS d I A c xs ∧ FrRow d.n e J0 I A xs.length, fun ⟨_, _, h, _⟩ => by rw [h]; rfl,
  fun ⟨_, _, h, _⟩ c hc => by rw [h] at hc; simp at hc; rw [hc]; rfl,
  fun hI ⟨A, c, h, hr, hf⟩ => ⟨A, c, h, hr.monoH hI, hf.imp id fun ⟨g, cells, fz, h1, h2, h3⟩ => ⟨g, cells, fz, h1, hI _ _ h2, h3⟩⟩⟩
end Kd
theorem fr_open {α : Type} {J0 : Imm} {d : Kd α} {e : TypeId} {I : Imm} {xs : List α} {cs : List Value} (h : (Kd.fr J0 d e).R I xs cs) : ∃ A c, cs = [.slice A xs.length c] ∧ RepS d I A c xs := by
  obtain ⟨A, c, h1, h2, _⟩ := h
  exact ⟨A, c, h1, h2⟩
theorem fr_nil {α : Type} {J0 : Imm} {d : Kd α} {e : TypeId} {I : Imm} : (Kd.fr J0 d e).R I [] [.slice none 0 0] := ⟨none, 0, rfl, RepS.nil _ _, .inl rfl⟩
theorem fr_sl {α : Type} {J0 : Imm} {d : Kd α} {e : TypeId} {I : Imm} {xs : List α} {cs : List Value} (h : (Kd.fr J0 d e).R I xs cs) : (Kd.sl d).R I xs cs := fr_open h
theorem fr_rest {α : Type} {J0 : Imm} {d : Kd α} {e : TypeId} {I J : Imm} {A : Option Addr} {c : Nat} {xs : List α} {C : Own} (h : OwnS d e I A c xs C) (hI : I ≤ J) (hC : Has J C) (hn : ∀ p ∈ C, J0.h p.1 = none) :
    (Kd.fr J0 d e).R J xs [.slice A xs.length c] := by
  refine ⟨A, c, rfl, h.rest hI hC, ?_⟩
  rcases h with ⟨rfl, _, _, _⟩ | ⟨g, cells, fz, rfl, rfl, h3, h4, h5, _, _⟩
  · exact .inl rfl
  · exact .inr ⟨g, cells, fz, rfl, hC (g, .cells cells e fz) (by simp), h3, by rw [h5]; exact Nat.mul_le_mul_right _ h4, hn (g, .cells cells e fz) (by simp)⟩
/-- Rows of them are rows of slices. -/
theorem RepS.ofFr {α : Type} {J0 : Imm} {d : Kd α} {e : TypeId} {I : Imm} {A : Option Addr} {c : Nat} {xs : List (List α)} (h : RepS (Kd.fr J0 d e) I A c xs) : RepS (Kd.sl d) I A c xs :=
  ⟨h.le, h.max, fun i x hx => by obtain ⟨a, cs, h1, h2, h3⟩ := h.at_ i x hx; exact ⟨a, cs, h1, fr_sl h2, h3⟩⟩
theorem OwnS.ofFr {α : Type} {J0 : Imm} {d : Kd α} {e e' : TypeId} {I : Imm} {A : Option Addr} {c : Nat} {xs : List (List α)} {C : Own} (h : OwnS (Kd.fr J0 d e) e' I A c xs C) : OwnS (Kd.sl d) e' I A c xs C := by
  rcases h with h | ⟨g, cells, fz, h1, h2, h3, h4, h5, h6, h7⟩
  · exact .inl h
  · exact .inr ⟨g, cells, fz, h1, h2, h3, h4, h5, ⟨fun i x hx => by obtain ⟨l, q1, q2⟩ := h6.at_ i x hx; exact ⟨l, fr_sl q1, q2⟩⟩, h7⟩
section
variable {P : Program} {ops : Array Oper} {k N : Nat} {K : KV} {I : Imm} {L C R : Own} {T : TPost}
/-- Laid to rest; it was not known before. -/
theorem gl_restF (t : Tk L C R) (kk : ∀ J, I ≤ J → Has J C → (∀ J0, J0 ≤ I → ∀ p ∈ C, J0.h p.1 = none) → GLk P ops k N K J R T) : GLk P ops k N K I L T := fun tm ht W hW =>
  let ⟨h1, h2, h3⟩ := hW.take t
  kk _ h2 h3 (fun J0 hJ p hp => by
    have hd := hW.dj p (t.p.mem_iff.2 (List.mem_append_left _ hp))
    cases h0 : J0.h p.1 with
    | none => rfl
    | some o => have := hJ.h _ _ h0; rw [this] at hd; cases hd) tm ht W h1
theorem gk_restF {c : Code} {Q : Post} (t : Tk L C R) (kk : ∀ J, I ≤ J → Has J C → (∀ J0, J0 ≤ I → ∀ p ∈ C, J0.h p.1 = none) → GCk P c N K J R Q) : GCk P c N K I L Q := fun tm ht W hW =>
  let ⟨h1, h2, h3⟩ := hW.take t
  kk _ h2 h3 (fun J0 hJ p hp => by
    have hd := hW.dj p (t.p.mem_iff.2 (List.mem_append_left _ hp))
    cases h0 : J0.h p.1 with
    | none => rfl
    | some o => have := hJ.h _ _ h0; rw [this] at hd; cases hd) tm ht W h1
/-- A call behind which no more is known than was known before. -/
theorem gl_callBack {J0 : Imm} {L' : Own} {f : FuncId} {args : Array Value} {v : Value} (h : callKV P ops k N K = some (f, args)) (hc : ∀ W, Holds I L W → Calls P f args W fun e W' => e = .returned v ∧ Holds J0 L' W')
    (kk : GLk P ops (k + 1) N (kvPut K (opAt ops k).dst v) J0 L' T) : GLk P ops k N K I L T := by
  unfold callKV at h
  cases hb : (readyKV ops k N K && kvKnown K (opAt ops k)) with
  | false => rw [hb] at h; cases h
  | true =>
    rw [hb] at h
    simp only [cond_true] at h
    simp only [Bool.and_eq_true] at hb
    obtain ⟨hk, hw, hd⟩ := readyKV_spec hb.1
    intro t ht W hW
    rw [drop_at hk]
    unfold wpList
    rw [if_pos (kvWanted_sound ht hw)]
    refine .inl ?_
    unfold Oper.wp
    rw [kvKnown_exec ht hb.2, enterOf_sound h W]
    refine (hc W hW).mono ?_
    rintro e W' ⟨rfl, hh⟩
    show wpList P ops _ _ (Act.put ⟨t, []⟩ (opAt ops k).dst v) W'
    rw [act_put_nil]
    exact kk _ (ht.put _ _ hd) W' hh
end
end Go.GB
