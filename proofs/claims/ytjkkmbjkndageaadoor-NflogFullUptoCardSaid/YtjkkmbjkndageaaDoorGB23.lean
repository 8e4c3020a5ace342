/- Rows of the call's own: read while order is drawn; their tails; clear. -/
import Derived.Test.YtjkkmbjkndageaaDoorGB22
set_option linter.unusedVariables false
set_option linter.unusedSimpArgs false
namespace Go.GB
open Go.RowKit
theorem OwnS.ixAt {α : Type} {d : Kd α} {e : TypeId} {I : Imm} {A : Option Addr} {c : Nat} {l : List α} {x : α} {i : Int} {C : Own} (hx : ix l i = some x) (hO : OwnS d e I A c l C) :
    ∃ p cs, d.R I x cs ∧ (∀ I' L', (∀ q ∈ C, q ∈ L') → AtL I' L' p cs) ∧ ∃ a, A = some a ∧ p = a.add (i.toNat * d.n) := by
  obtain ⟨h0, h1, h2⟩ := ix_some hx
  rcases hO with ⟨rfl, _, _⟩ | ⟨g, cells, fz, rfl, rfl, _, h4, h5, h6, _⟩
  · simp at h2
  · obtain ⟨cs, hR, hr⟩ := h6.at_ _ x h2
    refine ⟨_, cs, hR, fun I' L' hC W hW j v hj => ?_, _, rfl, rfl⟩
    have hg : W.heap[g]? = some (.cells cells e fz) := hW.own (g, .cells cells e fz) (hC _ (by simp))
    rw [addr_add]
    simp only [World.cell?, hg]
    simpa using hr j v hj
/-- A' is where the tail from k on of a slice at A lies, m elements of it. -/
def ViewS (n : Nat) (A A' : Option Addr) (k : Int) (m : Nat) : Prop := 0 ≤ k ∧ ∀ i : Int, 0 ≤ i → i < (m : Int) → ∃ a, A = some a ∧ ∃ a', A' = some a' ∧ a' = a.add (k.toNat * n)
def viewA (A : Option Addr) (b : Int) (n c : Nat) : Option Addr := if c = b.toNat then A else A.map (·.add (b.toNat * n))
theorem lx_take {α : Type} {l l' : List α} {b : Int} (hx : lx l 0 b = some l') : l' = l.take b.toNat := by
  unfold lx at hx
  split at hx <;> try (cases hx; done)
  simpa using hx.symm
theorem OwnS.view {α : Type} {d : Kd α} {e : TypeId} {I : Imm} {A : Option Addr} {c : Nat} {l l' : List α} {b : Int} {C : Own} (hx : lx l b (l.length : Int) = some l') (hO : OwnS d e I A c l C) : ViewS d.n A (viewA A b d.n c) b l'.length := by
  unfold lx at hx
  split at hx <;> try (cases hx; done)
  rename_i hb
  obtain ⟨h0, h1, h2⟩ := hb
  simp only [Option.some.injEq] at hx
  have hlc := hO.lenc
  have hlen : l'.length = l.length - b.toNat := by rw [← hx, List.length_drop, List.length_take]; omega
  refine ⟨h0, fun i hi0 hi1 => ?_⟩
  unfold viewA
  rw [if_neg (by omega)]
  rcases hO with ⟨rfl, _, _⟩ | ⟨g, cells, fz, rfl, rfl, _, h4, h5, h6, _⟩
  · have h3 : l'.length = 0 := by rw [hlen]; simp
    omega
  · exact ⟨_, rfl, _, rfl, rfl⟩
theorem OwnS.rdT {α : Type} {d : Kd α} {e : TypeId} {I : Imm} {A A' : Option Addr} {c : Nat} {l l' : List α} {b : Int} {C L : Own} (hx : lx l b (l.length : Int) = some l') (hV : ViewS d.n A A' b l'.length) (hO : OwnS d e I A c l C) (hU : Upd L C C L) : RdS d I L A' l' := by
  refine ⟨fun W hW => ?_⟩
  unfold lx at hx
  split at hx <;> try (cases hx; done)
  rename_i hb
  obtain ⟨h0, h1, h2⟩ := hb
  simp only [Option.some.injEq] at hx
  by_cases hne : l' = []
  · rw [hne]; exact (RdS.nil d I L A').rd W hW
  have hpos : 0 < l'.length := by cases l' with | nil => exact absurd rfl hne | cons _ _ => simp
  obtain ⟨a, ha, a', ha', hae⟩ := hV.2 0 (by omega) (by omega)
  rcases hO with ⟨rfl, _, _⟩ | ⟨g, cells, fz, rfl, rfl, _, h4, h5, h6, _⟩
  · rw [← hx] at hpos; simp at hpos
  · cases ha
    obtain ⟨R, h1', _⟩ := hW.upd hU
    have hg : W.heap[g]? = some (.cells cells e fz) := h1'.mem (by simp)
    have hcell : ∀ j, W.cell? ((⟨g, 0, none⟩ : Addr).add j) = cells[j]? := fun j => by
      have hadd : (⟨g, 0, none⟩ : Addr).add j = ⟨g, j, none⟩ := by unfold Addr.add; split <;> simp_all
      rw [hadd]; simp [World.cell?, hg]
    obtain ⟨ll, q1, q2, q3, q4⟩ := row_list (d := d) (I := I) a' W l' 0 (fun i y hy => by
      rw [← hx, List.getElem?_drop] at hy
      rw [List.getElem?_take] at hy
      split at hy <;> try (cases hy; done)
      obtain ⟨cs, hR, hr⟩ := h6.at_ _ y hy
      refine ⟨cs, hR, fun j v hj => ?_⟩
      have := hr j v hj
      rw [hae, Nat.zero_add, add_add, hcell, ← Nat.add_assoc, ← Nat.add_mul]
      exact this)
    exact ⟨ll, q1, q2, q3, fun _ => ⟨a', ha', fun j v hj => by have := q4 j v hj; simpa using this⟩⟩
def ixv {α : Type} (z : List α) (k : Int) (m : Nat) (i : Int) : Option α := if 0 ≤ i ∧ i < (m : Int) then ix z (k + i) else none
theorem OwnS.ixV {α : Type} {d : Kd α} {e : TypeId} {I : Imm} {A A' : Option Addr} {c m : Nat} {l : List α} {x : α} {k i : Int} {C : Own} (hx : ixv l k m i = some x) (hV : ViewS d.n A A' k m) (hO : OwnS d e I A c l C) :
    ∃ p cs, d.R I x cs ∧ (∀ I' L', (∀ q ∈ C, q ∈ L') → AtL I' L' p cs) ∧ (∃ a, A' = some a ∧ p = a.add (i.toNat * d.n)) ∧ 0 ≤ i ∧ i < (m : Int) := by
  unfold ixv at hx
  split at hx
  · rename_i hi
    obtain ⟨p, cs, hR, hA, a, ha, hp⟩ := hO.ixAt hx
    obtain ⟨a1, ha1, a', ha', he⟩ := hV.2 i hi.1 hi.2
    have hk := hV.1
    rw [ha] at ha1
    cases ha1
    refine ⟨p, cs, hR, hA, ⟨a', ha', ?_⟩, hi⟩
    rw [hp, he, add_add, ← Nat.add_mul]
    congr 2
    omega
  · cases hx
/-- An owned row is read wherever its block is among what is owned. -/
theorem OwnS.rdC {α : Type} {d : Kd α} {e : TypeId} {I : Imm} {A : Option Addr} {c : Nat} {xs : List α} {C L : Own} (h : OwnS d e I A c xs C) (hs : ∀ q ∈ C, q ∈ L) : RdS d I L A xs := by
  refine ⟨fun W hW => ?_⟩
  rcases h with ⟨rfl, _, _⟩ | ⟨g, cells, fz, rfl, rfl, _, h4, h5, h6, _⟩
  · exact (RdS.nil d I L A).rd W hW
  · have hg : W.heap[g]? = some (.cells cells e fz) := hW.own (g, .cells cells e fz) (hs _ (by simp))
    have hcell : ∀ j, W.cell? ((⟨g, 0, none⟩ : Addr).add j) = cells[j]? := fun j => by
      have hadd : (⟨g, 0, none⟩ : Addr).add j = ⟨g, j, none⟩ := by unfold Addr.add; split <;> simp_all
      rw [hadd]; simp [World.cell?, hg]
    obtain ⟨l, h1, h2, h3, h4⟩ := row_list (d := d) (I := I) ⟨g, 0, none⟩ W xs 0 (fun i y hy => by
      obtain ⟨cs, hR, hr⟩ := h6.at_ i y hy
      exact ⟨cs, hR, fun j v hj => by rw [Nat.zero_add, hcell]; exact hr j v hj⟩)
    exact ⟨l, h1, h2, h3, fun _ => ⟨_, rfl, fun j v hj => by have := h4 j v hj; simpa using this⟩⟩
def clrv {α : Type} (z : List α) (k : Int) (m : Nat) (y : α) : Option (List α) := if 0 ≤ k ∧ k + m ≤ (z.length : Int) then some (z.take k.toNat ++ List.replicate m y ++ z.drop (k.toNat + m)) else none
theorem clrv_length {α : Type} {z z' : List α} {k : Int} {m : Nat} {y : α} (h : clrv z k m y = some z') : z'.length = z.length := by
  unfold clrv at h
  split at h <;> try (cases h; done)
  rename_i hb
  simp only [Option.some.injEq] at h
  rw [← h]; simp; omega
theorem OwnS.head {α : Type} {d : Kd α} {e : TypeId} {I : Imm} {A : Option Addr} {c : Nat} {l l' : List α} {n : Nat} {C : Own} (hd : l' = l.take n) (h : OwnS d e I A c l C) : OwnS d e I A c l' C := by rw [hd]; exact h.take n
theorem head_head {α : Type} {l l' l'' : List α} {n m : Nat} (h2 : l'' = l'.take m) (h1 : l' = l.take n) : l'' = l.take (min m n) := by rw [h2, h1, List.take_take]
theorem RepS.head {α : Type} {d : Kd α} {I : Imm} {A : Option Addr} {c : Nat} {l l' : List α} {n : Nat} (hd : l' = l.take n) (h : RepS d I A c l) : RepS d I A c l' := by rw [hd]; exact h.take n
section
variable {P : Program} {ops : Array Oper} {k N : Nat} {K : KV} {I : Imm} {L : Own} {T : TPost}
/-- The head of an owned row, as a slice. -/
theorem gl_sliceH {n : Nat} {α : Type} {T' e : TypeId} {xs : Operand} {lo hi : Option Operand} {A : Option Addr} {c : Nat} {l l' : List α} {b : Int} (hx : lx l 0 b = some l') (hlc : l.length ≤ c)
    (ho : (opAt ops k).op = .slice T' xs lo hi none) (h : readyKV ops k N K = true) (hs : kvOp K xs = some (.slice A l.length c)) (hu : sliceElem P T' = some (e, n))
    (hl : kvBound K lo 0 = some 0) (hh : kvBound K hi l.length = some b)
    (kk : GLk P ops (k + 1) N (kvPut K (opAt ops k).dst (.slice A l'.length c)) I L T) : GLk P ops k N K I L T := by
  unfold lx at hx
  split at hx <;> try (cases hx; done)
  rename_i hb
  obtain ⟨_, h1, h2⟩ := hb
  simp only [Option.some.injEq, Int.toNat_zero, List.drop_zero] at hx
  have hlen : l'.length = b.toNat := by rw [← hx, List.length_take]; omega
  refine gl_sliceV (n := n) (a := 0) (b := b) (by omega) h1 (by omega) ho h hs hu hl hh (v := .slice A l'.length c) ?_ kk
  by_cases hc : c = 0
  · rw [hc] at hlc ⊢
    simp [hlen]
  · simp [hc, hlen]
    cases A with
    | none => rfl
    | some a => simp [add_zero']
/-- The tail of an owned row. -/
theorem gl_sliceT {n : Nat} {α : Type} {T' e : TypeId} {xs : Operand} {lo : Option Operand} {A : Option Addr} {c : Nat} {l l' : List α} {b : Int} (hx : lx l b (l.length : Int) = some l') (hlc : l.length ≤ c)
    (ho : (opAt ops k).op = .slice T' xs lo none none) (h : readyKV ops k N K = true) (hs : kvOp K xs = some (.slice A l.length c)) (hu : sliceElem P T' = some (e, n))
    (hl : kvBound K lo 0 = some b)
    (kk : GLk P ops (k + 1) N (kvPut K (opAt ops k).dst (.slice (viewA A b n c) l'.length (c - b.toNat))) I L T) : GLk P ops k N K I L T := by
  unfold lx at hx
  split at hx <;> try (cases hx; done)
  rename_i hb
  obtain ⟨h0, h1, h2⟩ := hb
  simp only [Option.some.injEq] at hx
  have hlen : l'.length = l.length - b.toNat := by rw [← hx, List.length_drop, List.length_take]; omega
  exact gl_sliceV (n := n) (a := b) (b := (l.length : Int)) h0 h1 (by omega) ho h hs hu hl rfl (v := .slice (viewA A b n c) l'.length (c - b.toNat)) (by rw [hlen]; simp [viewA]) kk
theorem zeroCells_get (zc : Array Value) (m i j : Nat) (v : Value) (hi : i < m) (hj : zc.toList[j]? = some v) : (Builtin.zeroCells zc m).toList[i * zc.size + j]? = some v := by
  have hj' : j < zc.size := by have := (List.getElem?_eq_some_iff.1 hj).1; simpa using this
  have hb : i * zc.size + j < m * zc.size := by
    have : (i + 1) * zc.size ≤ m * zc.size := Nat.mul_le_mul_right _ (by omega)
    rw [Nat.add_mul, Nat.one_mul] at this; omega
  have hm : (i * zc.size + j) % zc.size = j := by rw [Nat.mul_comm i, Nat.mul_add_mod]; exact Nat.mod_eq_of_lt hj'
  rw [Array.getElem?_toList]
  simp only [Builtin.zeroCells, Array.getElem?_map, Array.getElem?_range, hb, if_true, Option.map_some, hm]
  rw [Array.getElem?_toList] at hj
  rw [getElem!_def, hj]
/-- Part of a row of the call's own is cleared. -/
theorem gl_clearV {α : Type} {d : Kd α} {t e e' : TypeId} {x : Operand} {A A' : Option Addr} {c c' m : Nat} {z z' : List α} {y : α} {b : Int} {zc : Array Value} {C : Own} (f : Own → Own)
    (hx : clrv z b m y = some z') (hV : ViewS d.n A A' b m) (hO : OwnS d e' I A c z C) (hU : ∀ X, Upd L C X (f X))
    (ho : (opAt ops k).op = .call { callee := .builtin .clear, args := #[x], argTypes := #[t] }) (h : readyKV ops k N K = true)
    (hk : kvOp K x = some (.slice A' m c')) (he : sliceElem P t = some (e, d.n)) (hinfo : elemInfo P e d.n = true) (hz : zeroCells' P e = some zc) (hR : d.R I y zc.toList)
    (kk : ∀ C', OwnS d e' I A c z' C' → GLk P ops (k + 1) N (kvPut K (opAt ops k).dst (.tuple #[])) I (f C') T) : GLk P ops k N K I L T := by
  obtain ⟨hu1, hu2⟩ := sliceElem_spec he
  obtain ⟨ti, zv, hti, hzv, hsz, hzs, hby, hb0, hn0⟩ := elemInfo_spec hinfo
  have hzc : zv.cells = zc := by
    unfold zeroCells' at hz
    rw [hti] at hz
    simp only [hzv, Option.some.injEq] at hz
    exact hz
  have hzl : zc.size = d.n := by rw [← hzc]; exact hzs
  unfold clrv at hx
  split at hx <;> try (cases hx; done)
  rename_i hb
  obtain ⟨hb1, hb2⟩ := hb
  simp only [Option.some.injEq] at hx
  have hzlen : z'.length = z.length := by rw [← hx]; simp; omega
  refine gl_gen h fun tt ht W hW => ?_
  by_cases hm : m = 0
  · subst hm
    obtain ⟨R, hR1, hR2⟩ := hW.upd (hU C)
    have hzz : z' = z := by rw [← hx]; simp
    refine ⟨_, I, f C, W, ?_, hR2 I W hR1, kk C (by rw [hzz]; exact hO)⟩
    have hrun : (Builtin.clear_ #[t] (opAt ops k).type #[.slice A' 0 c']).run P W = .ok (.tuple #[]) W := by
      cases A' <;> simp [Builtin.clear_, run_underlying' hu1]
    simp only [execOp, ho, resolve, invoke, builtin, Sem.run_bind, Sem.run_pure, Result.andThen_ok, List.map_toArray, List.map_cons, List.map_nil, ht.op hk, hrun]
  obtain ⟨a, ha, a', ha', hae⟩ := hV.2 0 (by omega) (by omega)
  rcases hO with ⟨rfl, _, _⟩ | ⟨g, cells, fz, rfl, rfl, hfz, hc1, hc2, hrow, hmx⟩
  · simp at hb2; omega
  cases ha
  have hae' : a' = ⟨g, b.toNat * d.n, none⟩ := by rw [hae]; have := addr_add g 0 (b.toNat * d.n); rw [add_zero'] at this; simpa using this
  subst ha' hae'
  have hzsl : (Builtin.zeroCells zc m).toList.length = m * d.n := by simp [Builtin.zeroCells, hzl]
  have hfit : (b.toNat + m) * d.n ≤ cells.size := by rw [hc2]; exact Nat.mul_le_mul_right _ (by omega)
  rw [Nat.add_mul] at hfit
  have hone : ∀ v ∈ (Builtin.zeroCells zc m).toList, v.oneCell' = true := by
    intro v hv
    simp only [Builtin.zeroCells, Array.toList_map, List.mem_map, Array.toList_range, List.mem_range] at hv
    obtain ⟨i, hi, rfl⟩ := hv
    have hi2 : i % zc.size < zc.size := Nat.mod_lt _ (by omega)
    rw [getElem!_pos zc _ hi2]
    exact d.one hR _ (by simp)
  obtain ⟨R, hR1, hR2⟩ := hW.upd (hU [(g, .cells (putSeg cells (b.toNat * d.n) (Builtin.zeroCells zc m).toList) e' fz)])
  obtain ⟨W', hs', hg, hne, ho1, ho2, ho3⟩ := store_block (P := P) (g := g) (t := e') (fz := fz) (Builtin.zeroCells zc m).toList (b.toNat * d.n) 0 cells W (hR1.mem (by simp)) hfz (by rw [hzsl]; omega) hone
  have hget := putSeg_get (Builtin.zeroCells zc m).toList cells (b.toNat * d.n) (by rw [hzsl]; omega)
  refine ⟨_, I, _, W', ?_, hR2 I W' (Holds.set (A := []) hR1 _ (by simpa using hg) hne ho1 ho2 ho3), kk _ (.inr ⟨g, _, fz, rfl, rfl, by rw [FreeOf, putSeg_size]; exact hfz, by rw [hzlen]; exact hc1, by rw [putSeg_size]; exact hc2, ⟨fun i x hi => ?_⟩, by rw [hzlen]; exact hmx⟩)⟩
  · have hzr : (zeroValue e).run P W = .ok zv W := by simp [zeroValue, typeInfo, hti, hzv]
    have hrun : (Builtin.clear_ #[t] (opAt ops k).type #[.slice (some ⟨g, b.toNat * d.n, none⟩) m c']).run P W = .ok (.tuple #[]) W' := by
      cases m with
      | zero => exact absurd rfl hm
      | succ m => simp [Builtin.clear_, run_underlying' hu1, hzr, hzc, hs']
    simp only [execOp, ho, resolve, invoke, builtin, Sem.run_bind, Sem.run_pure, Result.andThen_ok, List.map_toArray, List.map_cons, List.map_nil, ht.op hk, hrun]
  · rw [← hx] at hi
    by_cases h1 : i < b.toNat
    · rw [List.append_assoc, List.getElem?_append_left (by simp; omega), List.getElem?_take, if_pos h1] at hi
      obtain ⟨cs, hR', hr⟩ := hrow.at_ i x hi
      have hcl := d.len hR'
      refine ⟨cs, hR', fun j v hj => ?_⟩
      have hj' : j < d.n := by have := (List.getElem?_eq_some_iff.1 hj).1; omega
      have h3 : (i + 1) * d.n ≤ b.toNat * d.n := Nat.mul_le_mul_right _ (by omega)
      rw [Nat.add_mul, Nat.one_mul] at h3
      simp only [hget]
      rw [if_neg (by omega)]
      exact hr j v hj
    · by_cases h2 : i < b.toNat + m
      · rw [List.getElem?_append_left (by simp; omega), List.getElem?_append_right (by simp; omega), List.getElem?_replicate] at hi
        split at hi <;> try (cases hi; done)
        cases hi
        refine ⟨zc.toList, hR, fun j v hj => ?_⟩
        have hj' : j < d.n := by have := (List.getElem?_eq_some_iff.1 hj).1; rw [Array.length_toList] at this; omega
        have h3 : b.toNat * d.n ≤ i * d.n := Nat.mul_le_mul_right _ (by omega)
        have h4 : (i + 1) * d.n ≤ (b.toNat + m) * d.n := Nat.mul_le_mul_right _ (by omega)
        rw [Nat.add_mul, Nat.one_mul, Nat.add_mul] at h4
        simp only [hget]
        rw [if_pos (by rw [hzsl]; omega)]
        have h5 := zeroCells_get zc m (i - b.toNat) j v (by omega) hj
        rw [hzl, Nat.sub_mul] at h5
        rw [show i * d.n + j - b.toNat * d.n = i * d.n - b.toNat * d.n + j from by omega]
        exact h5
      · have hmin : min b.toNat z.length = b.toNat := by omega
        rw [List.getElem?_append_right (by simp; omega), List.getElem?_drop] at hi
        simp only [List.length_append, List.length_take, List.length_replicate, hmin] at hi
        rw [show b.toNat + m + (i - (b.toNat + m)) = i from by omega] at hi
        obtain ⟨cs, hR', hr⟩ := hrow.at_ i x hi
        refine ⟨cs, hR', fun j v hj => ?_⟩
        have h3 : (b.toNat + m) * d.n ≤ i * d.n := Nat.mul_le_mul_right _ (by omega)
        rw [Nat.add_mul] at h3
        simp only [hget]
        rw [if_neg (by rw [hzsl]; omega)]
        exact hr j v hj
end
end Go.GB
