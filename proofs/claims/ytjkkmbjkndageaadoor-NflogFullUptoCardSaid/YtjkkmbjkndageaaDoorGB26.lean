/- Heads of rows of which more is known than they show; elements of owned rows that are stored to late; functions that call themselves. -/
import Derived.Test.YtjkkmbjkndageaaDoorGB24
set_option linter.unusedVariables false
set_option linter.unusedSimpArgs false
namespace Go.GB
open Go.RowKit
section
variable {P : Program} {ops : Array Oper} {k N : Nat} {K : KV} {I : Imm} {L : Own} {T : TPost}
/-- A part of a slice, of which more is known than its length shows. -/
theorem gl_sliceRF {α : Type} {d : Kd α} {T' e : TypeId} {xs : Operand} {lo hi : Option Operand} {A : Option Addr} {c m : Nat} {l l' : List α} {a b : Int} (hx : lx l a b = some l') (hr : RepS d I A c l)
    (ho : (opAt ops k).op = .slice T' xs lo hi none) (h : readyKV ops k N K = true) (hs : kvOp K xs = some (.slice A m c)) (hu : sliceElem P T' = some (e, d.n))
    (hl : kvBound K lo 0 = some a) (hh : kvBound K hi m = some b)
    (kk : ∀ A' c', RepS d I A' c' l' → GLk P ops (k + 1) N (kvPut K (opAt ops k).dst (.slice A' l'.length c')) I L T) : GLk P ops k N K I L T := by
  unfold lx at hx
  split at hx <;> try (cases hx; done)
  rename_i hb
  obtain ⟨h0, h1, h2⟩ := hb
  simp only [Option.some.injEq] at hx
  obtain ⟨hu1, hu2⟩ := sliceElem_spec hu
  have hle := hr.le
  have hlen : l'.length = b.toNat - a.toNat := by rw [← hx]; simp; omega
  have hrep : RepS d I (if c = a.toNat then A else A.map (·.add (a.toNat * d.n))) (c - a.toNat) l' := by
    refine ⟨by omega, by have := hr.max; omega, fun i x hi => ?_⟩
    rw [← hx, List.getElem?_drop, List.getElem?_take] at hi
    split at hi
    · obtain ⟨p, cs, hA, hR, hrun⟩ := hr.at_ _ x hi
      have : ¬ c = a.toNat := by omega
      refine ⟨p.add (a.toNat * d.n), cs, by rw [if_neg this, hA]; rfl, hR, ?_⟩
      rw [add_add, ← Nat.add_mul]; exact hrun
    · cases hi
  refine gl_step (v := .slice (if c = a.toNat then A else A.map (·.add (a.toNat * d.n))) l'.length (c - a.toNat)) h (fun t ht W hW => ?_) (kk _ _ hrep)
  have e1 : (a.toNat : Int) = a := by omega
  have e2 : (b.toNat : Int) = b := by omega
  have hbc : b ≤ (c : Int) := by omega
  rcases kvBound_spec hl with ⟨rfl, rfl⟩ | ⟨x, kx, rfl, hx'⟩
  · rcases kvBound_spec hh with ⟨rfl, rfl⟩ | ⟨y, ky, rfl, hy⟩
    · simp [execOp, ho, ht.op hs, Instr.sliceAt, Instr.slice, run_underlying' hu1, Instr.sliceBounds, hu2, hlen]
    · simp [execOp, ho, ht.op hs, ht.op hy, Instr.sliceAt, Instr.slice, run_underlying' hu1, Instr.sliceBounds, Instr.sliceBound, asIntOf, hu2, show 0 ≤ b by omega, hbc, hlen]
  · rcases kvBound_spec hh with ⟨rfl, rfl⟩ | ⟨y, ky, rfl, hy⟩
    · simp [execOp, ho, ht.op hs, ht.op hx', Instr.sliceAt, Instr.slice, run_underlying' hu1, Instr.sliceBounds, Instr.sliceBound, asIntOf, hu2, h0, h1, hlen]
    · simp [execOp, ho, ht.op hs, ht.op hx', ht.op hy, Instr.sliceAt, Instr.slice, run_underlying' hu1, Instr.sliceBounds, Instr.sliceBound, asIntOf, hu2, show 0 ≤ b by omega, hbc, e2, h0, h1, hlen]
end
theorem gk_kv {P : Program} {c : Code} {N : Nat} {K K' : KV} {I : Imm} {L : Own} {Q : Post} (e : K = K') (h : GCk P c N K' I L Q) : GCk P c N K I L Q := by rw [e]; exact h
theorem gl_kv {P : Program} {ops : Array Oper} {k N : Nat} {K K' : KV} {I : Imm} {L : Own} {T : TPost} (e : K = K') (h : GLk P ops k N K' I L T) : GLk P ops k N K I L T := by rw [e]; exact h
theorem hd_len {α : Type} {l l' : List α} {n : Nat} (h : l' = l.take n) : l' = l.take l'.length := by
  subst h
  rw [List.length_take]
  by_cases hn : n ≤ l.length
  · rw [Nat.min_eq_left hn]
  · rw [Nat.min_eq_right (by omega), List.take_of_length_le (Nat.le_refl _), List.take_of_length_le (by omega)]
/-- An element of an owned row: where it lies, and what it holds as long as the row stays. -/
theorem OwnS.ixAtG {α : Type} {d : Kd α} {e : TypeId} {I : Imm} {A : Option Addr} {c : Nat} {l : List α} {x : α} {i : Int} {C : Own} (hx : ix l i = some x) (hO : OwnS d e I A c l C) :
    ∃ p cs, d.R I x cs ∧ (∀ I' L', (∀ q ∈ C, q ∈ L') → AtL I' L' p cs) ∧ (∃ a, A = some a ∧ p = a.add (i.toNat * d.n)) ∧ ∃ g, A = some ⟨g, 0, none⟩ ∧ p = (⟨g, 0, none⟩ : Addr).add (i.toNat * d.n) := by
  obtain ⟨p, cs, h1, h2, a, h3, h4⟩ := OwnS.ixAt hx hO
  refine ⟨p, cs, h1, h2, ⟨a, h3, h4⟩, ?_⟩
  rcases hO with ⟨_, _, _, h⟩ | ⟨g, cells, fz, rfl, rfl, _⟩
  · rw [h] at h3; cases h3
  · cases h3; exact ⟨g, rfl, h4⟩
theorem lset_length {α : Type} (l : List α) (i : Int) (y : α) : (lset l i y).length = l.length := by simp [lset]
theorem ix_len {α : Type} {l m : List α} {i : Int} {x : α} (h : ix l i = some x) (hl : m.length = l.length) : ∃ y, ix m i = some y := by
  obtain ⟨h0, h1, h2⟩ := ix_some h
  refine ⟨m[i.toNat]'(by omega), ?_⟩
  unfold ix
  rw [if_pos h0, List.getElem?_eq_getElem]
/-- Functions that call themselves: so many times at most. -/
def iterF {α β : Type} (F : (α → Option β) → α → Option β) : Nat → α → Option β
  | 0 => fun _ => none
  | n + 1 => F (iterF F n)
theorem iterF_succ {α β : Type} (F : (α → Option β) → α → Option β) (n : Nat) : iterF F (n + 1) = F (iterF F n) := rfl
end Go.GB
