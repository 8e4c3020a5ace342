/- Rows that are borrowed: owned by a caller, read here, as if a part of what stays. -/
import Derived.Test.YtjkkmbjkndageaaDoorGBF
import Derived.Laws.Runes
set_option linter.unusedVariables false
set_option linter.unusedSimpArgs false
namespace Go.GB
open Go.RowKit
theorem adds_cases {I : Imm} {C : Own} {b : Nat} {o : Obj} (h : (I.adds C).h b = some o) : (b, o) ∈ C ∨ I.h b = some o := by
  unfold Imm.adds at h
  simp only at h
  cases hf : C.find? (fun p => p.1 == b) with
  | none => rw [hf] at h; exact .inr h
  | some p =>
    rw [hf] at h
    simp only [Option.some.injEq] at h
    have h1 := List.find?_some hf
    have h2 := List.mem_of_find?_eq_some hf
    have h3 : p.1 = b := by simpa using h1
    left
    have : p = (b, o) := Prod.ext h3 h
    rwa [this] at h2
theorem adds_le {I J : Imm} {C : Own} (hI : I ≤ J) (hC : Has J C) : I.adds C ≤ J :=
  ⟨fun b o h => by
    rcases adds_cases h with h | h
    · exact hC (b, o) h
    · exact hI.h b o h, hI.os, hI.tape, hI.out, hI.dr⟩
theorem adds_mono {I J : Imm} {C : Own} (hI : I ≤ J) : I.adds C ≤ J.adds C :=
  ⟨fun b o h => by
    unfold Imm.adds at h ⊢
    simp only at h ⊢
    cases hf : C.find? (fun p => p.1 == b) with
    | none => rw [hf] at h; exact hI.h b o h
    | some p => rw [hf] at h; exact h, hI.os, hI.tape, hI.out, hI.dr⟩
theorem RunAt.bor {I : Imm} {X : Own} {p : Addr} {cs : List Value} (h : RunAt (I.adds X) p cs) (I' : Imm) (L' : Own) (hI : I ≤ I') (hX : ∀ q ∈ X, q ∈ L') : AtL I' L' p cs := fun W hW j v hj => by
  have hc := h j v hj
  unfold Imm.cell at hc
  split at hc
  · rename_i c e f hb
    have hw : W.heap[(p.add j).block]? = some (.cells c e f) := by
      rcases adds_cases hb with hb | hb
      · exact hW.own _ (hX _ hb)
      · exact hW.imm _ _ (hI.h _ _ hb)
    simp only [World.cell?, hw]
    exact hc
  · cases hc
def Flat {α : Type} (d : Kd α) : Prop := ∀ I J x cs, d.R I x cs → d.R J x cs
theorem flat_int (k : IntKind) : Flat (Kd.int k) := fun _ _ _ _ h => h
theorem flat_str : Flat Kd.str := fun _ _ _ _ h => h
theorem flat_bool : Flat Kd.bool := fun _ _ _ _ h => h
theorem RepS.rdB {α : Type} {d : Kd α} (hd : Flat d) {I I0 : Imm} {X L : Own} {A : Option Addr} {c : Nat} {xs : List α} (h : RepS d (I0.adds X) A c xs) (hI : I0 ≤ I) (hX : ∀ q ∈ X, q ∈ L) : RdS d I L A xs := by
  refine ⟨fun W hW => ?_⟩
  cases xs with
  | nil => exact (RdS.nil d I L A).rd W hW
  | cons x xs =>
    obtain ⟨a, _, rfl, _, _⟩ := h.at_ 0 x rfl
    obtain ⟨l, h1, h2, h3, h4⟩ := row_list (d := d) (I := I) a W (x :: xs) 0 (fun i y hy => by
      obtain ⟨a', cs, ha, hR, hr⟩ := h.at_ i y hy
      cases ha
      exact ⟨cs, hd _ _ _ _ hR, fun j v hj => by rw [Nat.zero_add, ← add_add]; exact RunAt.bor hr I L hI hX W hW j v hj⟩)
    exact ⟨l, h1, h2, h3, fun _ => ⟨a, rfl, fun j v hj => by have := h4 j v hj; rwa [Nat.zero_mul, Nat.zero_add] at this⟩⟩
section
variable {P : Program} {ops : Array Oper} {k N : Nat} {K : KV} {I : Imm} {L : Own} {T : TPost}
/-- A number is made a text: its rune. -/
theorem gl_runeStr {src dst : TypeId} {x : Operand} {kd : IntKind} {n : Int} (ho : (opAt ops k).op = .convert src dst x) (h : readyKV ops k N K = true) (hx : kvOp K x = some (.int kd n)) (hs : (P.underlying src).isSome = true) (hd : P.underlying dst = some .string)
    (kk : GLk P ops (k + 1) N (kvPut K (opAt ops k).dst (.string (Utf8.encode n))) I L T) : GLk P ops k N K I L T := by
  refine gl_step h (fun t ht W hW => ?_) kk
  simp [execOp, ho, ht.op hx, run_convert_int_string W src dst kd n hs hd]
end
end Go.GB
