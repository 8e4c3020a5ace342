/- Elements of owned rows that are stored; results in cells at rest. -/
import Derived.Test.YtjkkmbjkndageaaDoorGB10
set_option linter.unusedVariables false
set_option linter.unusedSimpArgs false
namespace Go.GB
def putL : List Value → Nat → List Value → List Value
  | [], _, _ => []
  | c :: cs, o + 1, vs => c :: putL cs o vs
  | c :: cs, 0, [] => c :: cs
  | _ :: cs, 0, v :: vs => v :: putL cs 0 vs
theorem putL_get : ∀ (cs : List Value) (o : Nat) (vs : List Value), o + vs.length ≤ cs.length → ∀ j, (putL cs o vs)[j]? = if o ≤ j ∧ j < o + vs.length then vs[j - o]? else cs[j]?
  | [], o, vs, h, j => by
    have : vs = [] := List.length_eq_zero_iff.1 (by simp only [List.length_nil] at h; omega)
    subst this
    rw [if_neg (by simp)]; rfl
  | c :: cs, o + 1, vs, h, j => by
    simp only [List.length_cons] at h
    cases j with
    | zero => rw [if_neg (by omega)]; rfl
    | succ j =>
      simp only [putL, List.getElem?_cons_succ]
      rw [putL_get cs o vs (by omega) j]
      by_cases hj : o ≤ j ∧ j < o + vs.length
      · rw [if_pos hj, if_pos (by omega), show j + 1 - (o + 1) = j - o from by omega]
      · rw [if_neg hj, if_neg (by omega)]
  | c :: cs, 0, [], h, j => by rw [if_neg (by simp)]; rfl
  | c :: cs, 0, v :: vs, h, j => by
    simp only [List.length_cons] at h
    cases j with
    | zero => rw [if_pos (by simp)]; rfl
    | succ j =>
      simp only [putL, List.getElem?_cons_succ, List.length_cons]
      rw [putL_get cs 0 vs (by omega) j]
      by_cases hj : 0 ≤ j ∧ j < 0 + vs.length
      · rw [if_pos hj, if_pos (by omega)]; simp
      · rw [if_neg hj, if_neg (by omega)]
def lset {α : Type} (xs : List α) (i : Int) (y : α) : List α := xs.set i.toNat y
section
variable {P : Program} {ops : Array Oper} {k N : Nat} {K : KV} {I : Imm} {L : Own} {T : TPost}
theorem addr_add (g i j : Nat) : ((⟨g, 0, none⟩ : Addr).add i).add j = ⟨g, i + j, none⟩ := by
  rw [add_add]; unfold Addr.add; split
  · rename_i h; rw [h]
  · simp
/-- The address of an element of an owned row. -/
theorem gl_indexAddrW {α : Type} {d : Kd α} {T' e e' : TypeId} {xs xi : Operand} {A : Option Addr} {c : Nat} {l : List α} {x : α} {kd : IntKind} {i : Int} {C : Own} (hx : ix l i = some x) (hO : OwnS d e' I A c l C) (hU : Upd L C C L)
    (ho : (opAt ops k).op = .indexAddr T' xs xi) (h : readyKV ops k N K = true) (hs : kvOp K xs = some (.slice A l.length c)) (hi : kvOp K xi = some (.int kd i)) (hu : sliceElem P T' = some (e, d.n))
    (kk : ∀ p cs, d.R I x cs → AtL I L p cs → (∃ g, A = some ⟨g, 0, none⟩ ∧ p = (⟨g, 0, none⟩ : Addr).add (i.toNat * d.n)) → GLk P ops (k + 1) N (kvPut K (opAt ops k).dst (.pointer (some p))) I L T) : GLk P ops k N K I L T := by
  obtain ⟨h0, h1, h2⟩ := ix_some hx
  obtain ⟨hu1, hu2⟩ := sliceElem_spec hu
  rcases hO with ⟨rfl, _, _⟩ | ⟨g, cells, fz, rfl, rfl, _, h4, h5, h6, _⟩
  · simp at h2
  · obtain ⟨cs, hR, hr⟩ := h6.at_ _ x h2
    refine gl_step h (fun t ht W hW => ?_) (kk ((⟨g, 0, none⟩ : Addr).add (i.toNat * d.n)) cs hR (fun W hW j v hj => ?_) ⟨g, rfl, rfl⟩)
    · simp [execOp, ho, ht.op hs, ht.op hi, Instr.indexAt, asIntOf, run_underlying' hu1, h0, h1, hu2]
    · obtain ⟨R, h1', _⟩ := hW.upd hU
      have hg : W.heap[g]? = some (.cells cells e' fz) := h1'.mem (by simp)
      rw [addr_add]
      simp only [World.cell?, hg]
      simpa using hr j v hj
def storeOk (P : Program) (T' : TypeId) (v : Value) : Bool := match aggInfo P T' with
  | some (_, n) => Nat.beq v.cells.size n && v.cells.toList.all Value.oneCell'
  | none => false
/-- A part of an element of an owned row is stored. -/
theorem gl_storeE {α : Type} {d : Kd α} {T' e : TypeId} {xp xv : Operand} {A : Option Addr} {c : Nat} {xs : List α} {x y : α} {i : Int} {off : Nat} {p : Addr} {v : Value} {C : Own} (f : Own → Own)
    (hx : ix xs i = some x) (hO : OwnS d e I A c xs C) (hU : ∀ X, Upd L C X (f X)) (hp : ∃ g, A = some ⟨g, 0, none⟩ ∧ p = (⟨g, 0, none⟩ : Addr).add (i.toNat * d.n))
    (ho : (opAt ops k).op = .store T' xp xv) (h : readyKV ops k N K = true) (hk : kvOp K xp = some (.pointer (some (p.add off)))) (hv : kvOp K xv = some v) (hs : storeOk P T' v = true) (hd : (opAt ops k).dst = none)
    (hy : ∀ cs, d.R I x cs → d.R I y (putL cs off v.cells.toList)) (hn : Nat.ble (off + v.cells.size) d.n = true)
    (kk : ∀ C', OwnS d e I A c (lset xs i y) C' → GLk P ops (k + 1) N K I (f C') T) : GLk P ops k N K I L T := by
  obtain ⟨h0, h1, h2⟩ := ix_some hx
  have hn' := Nat.le_of_ble_eq_true hn
  rcases hO with ⟨rfl, _, _⟩ | ⟨g, cells, fz, rfl, rfl, hf, h4, h5, h6, h7⟩
  · simp at h2
  · obtain ⟨g', hg', rfl⟩ := hp
    cases hg'
    refine gl_gen_skip h fun t ht W hW => ?_
    obtain ⟨R, hR1, hR2⟩ := hW.upd (hU [(g, Obj.cells (putSeg cells (i.toNat * d.n + off) v.cells.toList) e fz)])
    unfold storeOk at hs
    split at hs <;> try (cases hs; done)
    rename_i b n hT
    simp only [Bool.and_eq_true, List.all_eq_true] at hs
    have hsz : v.cells.size = n := Nat.eq_of_beq_eq_true hs.1
    have hlen : i.toNat < xs.length := (List.getElem?_eq_some_iff.1 h2).1
    have hle : i.toNat * d.n + d.n ≤ c * d.n := by rw [← Nat.succ_mul]; exact Nat.mul_le_mul_right _ (by omega)
    have hfit : i.toNat * d.n + off + 0 + v.cells.toList.length ≤ cells.size := by rw [Array.length_toList]; omega
    obtain ⟨W', hs', hg, hne, ho1, ho2, ho3⟩ := store_block (P := P) (g := g) (t := e) (fz := fz) v.cells.toList (i.toNat * d.n + off) 0 cells W (hR1.mem (by simp)) hf hfit hs.2
    refine ⟨I, f [(g, Obj.cells (putSeg cells (i.toNat * d.n + off) v.cells.toList) e fz)], W', ?_, hR2 I W' ?_, ?_⟩
    · rw [addr_add] at hk
      simp [execOp, ho, ht.op hk, ht.op hv, Instr.storeAt, Instr.sureAddr, storeVar, (aggInfo_spec hT).2, hsz, hs']
    · exact Holds.set (A := []) hR1 _ (by simpa using hg) hne ho1 ho2 ho3
    · rw [hd]
      refine kk _ (.inr ⟨g, _, fz, rfl, rfl, by rw [FreeOf, putSeg_size]; exact hf, by rw [lset, List.length_set]; exact h4, by rw [putSeg_size]; exact h5, ⟨fun j z hz => ?_⟩, by rw [lset, List.length_set]; exact h7⟩)
      unfold lset at hz
      rw [List.getElem?_set] at hz
      have hget := putSeg_get v.cells.toList cells (i.toNat * d.n + off) (by omega)
      by_cases hj : i.toNat = j
      · subst hj
        rw [if_pos rfl, if_pos hlen] at hz
        cases hz
        obtain ⟨cs, hR, hr⟩ := h6.at_ _ x h2
        have hcl := d.len hR
        refine ⟨_, hy cs hR, fun q u hq => ?_⟩
        rw [putL_get cs off _ (by rw [Array.length_toList, hcl]; exact hn')] at hq
        rw [hget]
        by_cases hq' : off ≤ q ∧ q < off + v.cells.toList.length
        · rw [if_pos hq'] at hq
          rw [if_pos (by omega), show i.toNat * d.n + q - (i.toNat * d.n + off) = q - off from by omega]; exact hq
        · rw [if_neg hq'] at hq
          rw [if_neg (by omega)]; exact hr q u hq
      · rw [if_neg hj] at hz
        obtain ⟨cs, hR, hr⟩ := h6.at_ _ z hz
        have hcl := d.len hR
        refine ⟨cs, hR, fun q u hq => ?_⟩
        have hq' : q < d.n := by rw [← hcl]; exact (List.getElem?_eq_some_iff.1 hq).1
        rw [hget, if_neg ?_]
        · exact hr q u hq
        · rw [Array.length_toList]
          rintro ⟨ha, hb⟩
          rcases Nat.lt_or_gt_of_ne hj with hlt | hlt
          · have : (i.toNat + 1) * d.n ≤ j * d.n := Nat.mul_le_mul_right _ hlt
            rw [Nat.add_mul, Nat.one_mul] at this; omega
          · have : (j + 1) * d.n ≤ i.toNat * d.n := Nat.mul_le_mul_right _ hlt
            rw [Nat.add_mul, Nat.one_mul] at this; omega
/-- A result that lies in memory at rest. -/
theorem loadR_one {T' : TypeId} {p : Addr} {c : Value} {cs : List Value} {n : Nat} (hT : aggInfo P T' = some (false, n)) (hr : RunAt I p (c :: cs)) : ∀ W, Holds I L W → (loadVar T' p).run P W = .ok c W := fun W hW =>
  loadVar_one hT (by have := hW.cell (hr 0 c rfl); rwa [add_zero'] at this)
theorem loadR_agg {T' : TypeId} {p : Addr} {cs : List Value} (hT : aggInfo P T' = some (true, cs.length)) (hr : RunAt I p cs) : ∀ W, Holds I L W → (loadVar T' p).run P W = .ok (.agg cs.toArray) W := fun W hW =>
  loadVar_agg hT (fun j v hj => hW.cell (hr j v hj))
end
end Go.GB
