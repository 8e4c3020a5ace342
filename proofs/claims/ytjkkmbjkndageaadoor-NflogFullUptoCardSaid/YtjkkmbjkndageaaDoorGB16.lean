/- Rows that are made; copies into rows; the head of a row. -/
import Derived.Test.YtjkkmbjkndageaaDoorGB15
import Derived.Laws.MakeOwn
set_option linter.unusedVariables false
set_option linter.unusedSimpArgs false
namespace Go.GB
def mkrow {α : Type} (z : α) (n c : Int) : Option (List α) := if 0 ≤ n ∧ n ≤ c ∧ c ≤ 2147483648 then some (List.replicate n.toNat z) else none
theorem mkrow_some {α : Type} {z : α} {n c : Int} {xs : List α} (h : mkrow z n c = some xs) : 0 ≤ n ∧ n ≤ c ∧ c ≤ 2147483648 ∧ xs = List.replicate n.toNat z := by
  unfold mkrow at h
  split at h
  · rename_i hc; cases h; exact ⟨hc.1, hc.2.1, hc.2.2, rfl⟩
  · cases h
def lcopy {α : Type} (xs ys : List α) : List α := ys.take xs.length ++ xs.drop ys.length
theorem lcopy_length {α : Type} (xs ys : List α) : (lcopy xs ys).length = xs.length := by simp [lcopy]; omega
section
variable {P : Program} {ops : Array Oper} {k N : Nat} {K : KV} {I : Imm} {L : Own} {T : TPost}
theorem gl_makeSlice {α : Type} {d : Kd α} {T' e : TypeId} {lx cx : Operand} {n c : Int} {kl kc : IntKind} {z : α} {zc : Array Value} {xs : List α} (hx : mkrow z n c = some xs)
    (ho : (opAt ops k).op = .makeSlice T' lx cx) (h : readyKV ops k N K = true) (hl : kvOp K lx = some (.int kl n)) (hc : kvOp K cx = some (.int kc c)) (he : sliceElem P T' = some (e, d.n)) (hinfo : elemInfo P e d.n = true)
    (hz : zeroCells' P e = some zc) (hR : d.R I z zc.toList)
    (kk : ∀ A C, OwnS d e I A c.toNat xs C → GLk P ops (k + 1) N (kvPut K (opAt ops k).dst (.slice A xs.length c.toNat)) I (C ++ L) T) : GLk P ops k N K I L T := by
  obtain ⟨h0, h1, h2, rfl⟩ := mkrow_some hx
  obtain ⟨hu1, hu2⟩ := sliceElem_spec he
  obtain ⟨ti, zv, hti, hzv, hsz, hzs, hby, hb0, hn0⟩ := elemInfo_spec hinfo
  have hzc : zv.cells = zc := by
    unfold zeroCells' at hz
    rw [hti] at hz
    simp only [hzv, Option.some.injEq] at hz
    exact hz
  refine gl_gen h fun t ht W hW => ?_
  have hbytes : (ti.bytes : Int) * c ≤ 281474976710656 := by
    have : ti.bytes * c.toNat ≤ 8192 * 2147483648 := Nat.mul_le_mul hby (by omega)
    have h3 : ((ti.bytes * c.toNat : Nat) : Int) = (ti.bytes : Int) * c := by rw [Int.natCast_mul]; congr 1; omega
    omega
  have hr := run_make (P := P) W T' e ti zv hu1 hti hzv kl kc n c h0 h1 hbytes (by omega)
  rw [hsz, hzc] at hr
  refine ⟨_, I, [(W.heap.size, Obj.cells (madeCells zc (c.toNat * d.n)) e)] ++ L, _, ?_, hW.new (.cells (madeCells zc (c.toNat * d.n)) e), kk (some ⟨W.heap.size, 0, none⟩) _ (.inr ⟨W.heap.size, _, (0, 0), rfl, rfl, FreeOf.zero _, by rw [List.length_replicate]; omega, size_madeCells _ _, ⟨fun i x hi => ?_⟩, by rw [List.length_replicate]; unfold maxLen'; omega⟩)⟩
  · simp only [execOp, ho, ht.op hl, ht.op hc, hr, Sem.run_bind, Result.andThen_ok, Sem.run_pure, List.length_replicate]; rfl
  · rw [List.getElem?_replicate] at hi
    split at hi <;> try (cases hi; done)
    rename_i hlt
    cases hi
    refine ⟨zc.toList, hR, fun j v hj => ?_⟩
    have hzl : zc.size = d.n := by rw [← hzc]; exact hzs
    have hj' : j < d.n := by have := (List.getElem?_eq_some_iff.1 hj).1; rw [Array.length_toList] at this; omega
    have hb : i * d.n + j < c.toNat * d.n := by
      have : (i + 1) * d.n ≤ c.toNat * d.n := Nat.mul_le_mul_right _ (by omega)
      rw [Nat.add_mul, Nat.one_mul] at this; omega
    have hm : (i * d.n + j) % zc.size = j := by rw [hzl, Nat.mul_comm i, Nat.mul_add_mod]; exact Nat.mod_eq_of_lt hj'
    simp only [madeCells, Array.getElem?_map, Array.getElem?_range, hb, if_true, Option.map_some, hm]
    rw [Array.getElem?_toList] at hj
    rw [getElem!_def, hj]
theorem row_copy {α : Type} {d : Kd α} {I : Imm} {xs ys : List α} {cells : Array Value} {l : List Value} (hx : RowAt d I xs (fun j => cells[j]?)) (hy : RowAt d I ys (fun j => l[j]?)) (hl : l.length = ys.length * d.n) (hc : xs.length * d.n ≤ cells.size) :
    RowAt d I (lcopy xs ys) (fun j => (putSeg cells 0 (l.take (min ys.length xs.length * d.n)))[j]?) := by
  have hml : (l.take (min ys.length xs.length * d.n)).length = min ys.length xs.length * d.n := by
    rw [List.length_take, hl]
    have := Nat.mul_le_mul_right d.n (Nat.min_le_left ys.length xs.length)
    omega
  have hmc : min ys.length xs.length * d.n ≤ cells.size := Nat.le_trans (Nat.mul_le_mul_right d.n (Nat.min_le_right ys.length xs.length)) hc
  have hget := putSeg_get (l.take (min ys.length xs.length * d.n)) cells 0 (by rw [hml]; omega)
  refine ⟨fun i x hi => ?_⟩
  unfold lcopy at hi
  by_cases h : i < min ys.length xs.length
  · rw [List.getElem?_append_left (by rw [List.length_take]; omega), List.getElem?_take, if_pos (by omega)] at hi
    obtain ⟨q, hq, hr⟩ := hy.at_ i x hi
    refine ⟨q, hq, fun j v hj => ?_⟩
    have hj' : j < d.n := by rw [← d.len hq]; exact (List.getElem?_eq_some_iff.1 hj).1
    have : (i + 1) * d.n ≤ min ys.length xs.length * d.n := Nat.mul_le_mul_right _ h
    rw [Nat.add_mul, Nat.one_mul] at this
    simp only [hget]
    rw [if_pos (by rw [hml]; omega), Nat.sub_zero, List.getElem?_take, if_pos (by omega)]
    exact hr j v hj
  · have hi2 : (xs.drop ys.length)[i - (ys.take xs.length).length]? = some x := by
      rw [List.getElem?_append_right (by rw [List.length_take]; omega)] at hi; exact hi
    rw [List.getElem?_drop] at hi2
    have hlt := (List.getElem?_eq_some_iff.1 hi2).1
    rw [List.length_take] at hi2 hlt
    have hi3 : xs[i]? = some x := by rw [show i = ys.length + (i - min xs.length ys.length) from by omega]; exact hi2
    obtain ⟨q, hq, hr⟩ := hx.at_ i x hi3
    refine ⟨q, hq, fun j v hj => ?_⟩
    have : min ys.length xs.length * d.n ≤ i * d.n := Nat.mul_le_mul_right _ (by omega)
    simp only [hget]
    rw [if_neg (by rw [hml]; omega)]
    exact hr j v hj
/-- A copy into a row of the call's own. -/
theorem gl_copyW {α : Type} {d : Kd α} {tD tS e e' : TypeId} {A A2 : Option Addr} {c c2 : Nat} {xs ys : List α} {dx sx : Operand} {C : Own} (f : Own → Own)
    (ho : (opAt ops k).op = .call { callee := .builtin .copy, args := #[dx, sx], argTypes := #[tD, tS] }) (h : readyKV ops k N K = true)
    (hd : kvOp K dx = some (.slice A xs.length c)) (hs : kvOp K sx = some (.slice A2 ys.length c2)) (he : sliceElem P tD = some (e, d.n)) (hO : OwnS d e' I A c xs C) (hU : ∀ X, Upd L C X (f X)) (hsrc : RdS d I L A2 ys)
    (kk : ∀ C', OwnS d e' I A c (lcopy xs ys) C' → GLk P ops (k + 1) N (kvPut K (opAt ops k).dst (.int .i64 ((min ys.length xs.length : Nat) : Int))) I (f C') T) : GLk P ops k N K I L T := by
  obtain ⟨hu1, hu2⟩ := sliceElem_spec he
  refine gl_gen h fun t ht W hW => ?_
  obtain ⟨l, hl, hrow, hone, hcell⟩ := hsrc.rd W hW
  have hm : Nat.min ys.length xs.length = min ys.length xs.length := rfl
  have hml : (l.take (min ys.length xs.length * d.n)).length = min ys.length xs.length * d.n := by
    rw [List.length_take, hl]
    have := Nat.mul_le_mul_right d.n (Nat.min_le_left ys.length xs.length)
    omega
  have hfc : (Builtin.firstCells d.n (min ys.length xs.length) (.slice A2 ys.length c2)).run P W = .ok (l.take (min ys.length xs.length * d.n)).toArray W := by
    by_cases hy : ys = []
    · subst hy
      cases A2 <;> simp [Builtin.firstCells, loadCells, loadCellsFrom]
    · obtain ⟨a, rfl, ha⟩ := hcell hy
      refine run_firstCells_some W d.n _ a ys.length c2 _ hml (fun j v hj => ?_)
      rw [List.getElem?_take] at hj
      split at hj
      · exact ha j v hj
      · cases hj
  rcases hO with ⟨rfl, rfl, rfl, hA⟩ | ⟨g, cells, fz, rfl, rfl, hfz, hc1, hc2, hrx, hmx⟩
  · obtain ⟨R, hR1, hR2⟩ := hW.upd (hU [])
    refine ⟨_, I, f [], W, ?_, hR2 I W (by simpa using hR1), kk [] (.inl ⟨by simp [lcopy], rfl, rfl, hA⟩)⟩
    have hcopy : (Builtin.copy_ #[tD, tS] (opAt ops k).type #[.slice A ([] : List α).length 0, .slice A2 ys.length c2]).run P W = .ok (.int .i64 ((min ys.length ([] : List α).length : Nat) : Int)) W := by
      cases A <;> simp [Builtin.copy_, run_underlying' hu1, Builtin.lenOf, hu2, storeCells, goInt] <;> simp at hfc <;> simp [hfc, storeCells]
    simp only [execOp, ho, resolve, invoke, builtin, Sem.run_bind, Sem.run_pure, Result.andThen_ok, List.map_toArray, List.map_cons, List.map_nil, ht.op hd, ht.op hs, hcopy]
  · have hxc : xs.length * d.n ≤ cells.size := by rw [hc2]; exact Nat.mul_le_mul_right _ hc1
    have hmc : min ys.length xs.length * d.n ≤ cells.size := Nat.le_trans (Nat.mul_le_mul_right d.n (Nat.min_le_right ys.length xs.length)) hxc
    obtain ⟨R, hR1, hR2⟩ := hW.upd (hU [(g, .cells (putSeg cells 0 (l.take (min ys.length xs.length * d.n))) e' fz)])
    obtain ⟨W', hs', hg, hne, ho1, ho2, ho3⟩ := store_block (P := P) (g := g) (t := e') (fz := fz) (l.take (min ys.length xs.length * d.n)) 0 0 cells W (hR1.mem (by simp)) hfz (by rw [hml]; omega) (fun v hv => hone v (List.mem_of_mem_take hv))
    refine ⟨_, I, _, W', ?_, hR2 I W' (Holds.set (A := []) hR1 _ (by simpa using hg) hne ho1 ho2 ho3), kk _ (.inr ⟨g, _, fz, rfl, rfl, by rw [FreeOf, putSeg_size]; exact hfz, by rw [lcopy_length]; exact hc1, by rw [putSeg_size]; exact hc2, row_copy hrx hrow hl hxc, by rw [lcopy_length]; exact hmx⟩)⟩
    have hcopy : (Builtin.copy_ #[tD, tS] (opAt ops k).type #[.slice (some ⟨g, 0, none⟩) xs.length c, .slice A2 ys.length c2]).run P W = .ok (.int .i64 ((min ys.length xs.length : Nat) : Int)) W' := by
      simp [Builtin.copy_, run_underlying' hu1, Builtin.lenOf, hm, hu2, hfc, hs', goInt]
    simp only [execOp, ho, resolve, invoke, builtin, Sem.run_bind, Sem.run_pure, Result.andThen_ok, List.map_toArray, List.map_cons, List.map_nil, ht.op hd, ht.op hs, hcopy]
theorem RowAt.take {α : Type} {d : Kd α} {I : Imm} {xs : List α} {cs : Nat → Option Value} (h : RowAt d I xs cs) (r : Nat) : RowAt d I (xs.take r) cs := ⟨fun i x hi => by
  rw [List.getElem?_take] at hi
  split at hi
  · exact h.at_ i x hi
  · cases hi⟩
/-- The head of a row. -/
theorem OwnS.take {α : Type} {d : Kd α} {e : TypeId} {A : Option Addr} {c : Nat} {xs : List α} {C : Own} (h : OwnS d e I A c xs C) (r : Nat) : OwnS d e I A c (xs.take r) C := by
  rcases h with ⟨rfl, rfl, rfl, rfl⟩ | ⟨g, cells, fz, rfl, rfl, h3, h4, h5, h6, h7⟩
  · exact .inl ⟨by simp, rfl, rfl, rfl⟩
  · exact .inr ⟨g, cells, fz, rfl, rfl, h3, by rw [List.length_take]; omega, h5, h6.take r, by rw [List.length_take]; omega⟩
theorem RepS.take {α : Type} {d : Kd α} {A : Option Addr} {c : Nat} {xs : List α} (h : RepS d I A c xs) (r : Nat) : RepS d I A c (xs.take r) := ⟨by have := h.le; rw [List.length_take]; omega, by have := h.max; rw [List.length_take]; omega, fun i x hi => by
  rw [List.getElem?_take] at hi
  split at hi
  · exact h.at_ i x hi
  · cases hi⟩
end
end Go.GB
