/- What slices.Insert needs: headers, copies, rows that grow by zeros, rows that do not overlap. -/
import Derived.Test.YtjkkmbjkndageaaDoorGB11
import Derived.Lib.Overlaps
set_option linter.unusedVariables false
set_option linter.unusedSimpArgs false
namespace Go.GB
theorem wrap64 {x : Int} (h : -9223372036854775808 ≤ x) (h' : x ≤ 9223372036854775807) : IntKind.wrap .i64 x = x := by
  unfold IntKind.wrap
  simp [IntKind.bits, IntKind.signed]
  omega
theorem OwnS.lenc {α : Type} {d : Kd α} {e : TypeId} {I : Imm} {A : Option Addr} {c : Nat} {xs : List α} {C : Own} (h : OwnS d e I A c xs C) : xs.length ≤ c := by
  rcases h with ⟨rfl, rfl, _⟩ | ⟨g, cells, fz, _, _, _, h4, _⟩
  · exact Nat.le_refl _
  · exact h4
/-- The header of a part, from a on. -/
theorem head_eq {g a n c len b : Nat} (h : a < c) : Value.slice (if c = a then some (⟨g, 0, none⟩ : Addr) else (some (⟨g, 0, none⟩ : Addr)).map (·.add (a * n))) len b = .slice (some ⟨g, a * n, none⟩) len b := by
  rw [if_neg (by omega)]
  simp only [Option.map_some, Value.slice.injEq, Option.some.injEq, and_true]
  unfold Addr.add; split
  · rename_i h; rw [h]
  · simp
def linsert {α : Type} (xs : List α) (i : Int) (y : α) : Option (List α) := if 0 ≤ i ∧ i ≤ (xs.length : Int) ∧ xs.length + 1 ≤ maxLen' then some (xs.take i.toNat ++ y :: xs.drop i.toNat) else none
theorem linsert_some {α : Type} {xs r : List α} {i : Int} {y : α} (h : linsert xs i y = some r) : 0 ≤ i ∧ i ≤ (xs.length : Int) ∧ xs.length + 1 ≤ maxLen' ∧ r = xs.take i.toNat ++ y :: xs.drop i.toNat := by
  unfold linsert at h
  split at h
  · rename_i hc; cases h; exact ⟨hc.1, hc.2.1, hc.2.2, rfl⟩
  · cases h
theorem row_insert {α : Type} {d : Kd α} {I : Imm} {xs : List α} {y : α} {i : Nat} {vs : List Value} {cs cs' : Nat → Option Value} (hr : RowAt d I xs cs) (hy : d.R I y vs) (hi : i ≤ xs.length)
    (h1 : ∀ j, j < i * d.n → cs' j = cs j) (h2 : ∀ j, j < d.n → cs' (i * d.n + j) = vs[j]?) (h3 : ∀ j, j < (xs.length - i) * d.n → cs' ((i + 1) * d.n + j) = cs (i * d.n + j)) : RowAt d I (xs.take i ++ y :: xs.drop i) cs' := by
  refine ⟨fun k x hx => ?_⟩
  have hlen : (xs.take i).length = i := by rw [List.length_take]; omega
  by_cases hk : k < i
  · rw [List.getElem?_append_left (by omega), List.getElem?_take, if_pos hk] at hx
    obtain ⟨l, hl, hq⟩ := hr.at_ k x hx
    refine ⟨l, hl, fun j v hj => ?_⟩
    have hj' : j < d.n := by rw [← d.len hl]; exact (List.getElem?_eq_some_iff.1 hj).1
    have : (k + 1) * d.n ≤ i * d.n := Nat.mul_le_mul_right _ hk
    rw [Nat.add_mul, Nat.one_mul] at this
    rw [h1 _ (by omega)]; exact hq j v hj
  · rw [List.getElem?_append_right (by omega), hlen] at hx
    by_cases hk2 : k = i
    · subst hk2
      rw [Nat.sub_self] at hx
      cases hx
      refine ⟨vs, hy, fun j v hj => ?_⟩
      have hj' : j < d.n := by rw [← d.len hy]; exact (List.getElem?_eq_some_iff.1 hj).1
      rw [h2 j hj']; exact hj
    · rw [show k - i = (k - 1 - i) + 1 from by omega, List.getElem?_cons_succ, List.getElem?_drop, show i + (k - 1 - i) = k - 1 from by omega] at hx
      obtain ⟨l, hl, hq⟩ := hr.at_ _ x hx
      refine ⟨l, hl, fun j v hj => ?_⟩
      have hj' : j < d.n := by rw [← d.len hl]; exact (List.getElem?_eq_some_iff.1 hj).1
      have hkl : k - 1 < xs.length := (List.getElem?_eq_some_iff.1 hx).1
      have e1 : k * d.n + j = (i + 1) * d.n + ((k - 1 - i) * d.n + j) := by
        rw [← Nat.add_assoc, ← Nat.add_mul]; congr 2; omega
      have e2 : i * d.n + ((k - 1 - i) * d.n + j) = (k - 1) * d.n + j := by
        rw [← Nat.add_assoc, ← Nat.add_mul]; congr 2; omega
      have e3 : (k - 1 - i + 1) * d.n ≤ (xs.length - i) * d.n := Nat.mul_le_mul_right _ (by omega)
      rw [Nat.add_mul, Nat.one_mul] at e3
      rw [e1, h3 _ (by omega), e2]
      exact hq j v hj

theorem row_one {α : Type} {d : Kd α} {I : Imm} {xs : List α} {cells : Array Value} {c a m : Nat} (hr : RowAt d I xs (fun j => cells[j]?)) (hcs : cells.size = c * m) (hlc : xs.length ≤ c) (hn : d.n = m) :
    ∀ v ∈ (cells.toList.drop (a * m)).take ((xs.length - a) * m), v.oneCell' = true := by
  subst hn
  intro v hv
  obtain ⟨j, hj⟩ := List.getElem?_of_mem hv
  rw [List.getElem?_take] at hj
  split at hj <;> try (cases hj; done)
  rename_i hjl
  rw [List.getElem?_drop, Array.getElem?_toList] at hj
  have hn0 : 0 < d.n := by
    rcases Nat.eq_zero_or_pos d.n with h | h
    · rw [h] at hjl; simp at hjl
    · exact h
  have hlt : a * d.n + j < xs.length * d.n := by
    rcases Nat.lt_or_ge a xs.length with h | h
    · have : (xs.length - a) * d.n + a * d.n = xs.length * d.n := by rw [← Nat.add_mul]; congr 1; omega
      omega
    · rw [show xs.length - a = 0 from by omega] at hjl; simp at hjl
  have hk : (a * d.n + j) / d.n < xs.length := Nat.div_lt_of_lt_mul (by have h9 := hlt; rw [Nat.mul_comm xs.length d.n] at h9; exact h9)
  obtain ⟨l, hl, hq⟩ := hr.at_ ((a * d.n + j) / d.n) _ (List.getElem?_eq_getElem hk)
  have hmod : (a * d.n + j) % d.n < l.length := by rw [d.len hl]; exact Nat.mod_lt _ hn0
  have := hq _ _ (List.getElem?_eq_getElem hmod)
  rw [show (a * d.n + j) / d.n * d.n + (a * d.n + j) % d.n = a * d.n + j from by rw [Nat.mul_comm]; exact Nat.div_add_mod _ _] at this
  simp only [hj, Option.some.injEq] at this
  rw [this]
  exact d.one hl _ (List.getElem_mem hmod)

section
variable {P : Program} {ops : Array Oper} {k N : Nat} {K : KV} {I : Imm} {L : Own} {T : TPost}
theorem gl_have {φ : Prop} (hφ : ∀ W, Holds I L W → φ) (kk : φ → GLk P ops k N K I L T) : GLk P ops k N K I L T := fun t ht W hW => kk (hφ W hW) t ht W hW
theorem gl_sliceV {T' e n : Nat} {xs : Operand} {lo hi : Option Operand} {A : Option Addr} {len c : Nat} {a b : Int} (h0 : 0 ≤ a) (h1 : a ≤ b) (h2 : b ≤ (c : Int))
    (ho : (opAt ops k).op = .slice T' xs lo hi none) (h : readyKV ops k N K = true) (hs : kvOp K xs = some (.slice A len c)) (hu : sliceElem P T' = some (e, n))
    (hl : kvBound K lo 0 = some a) (hh : kvBound K hi len = some b) {v : Value} (hv : Value.slice (if c = a.toNat then A else A.map (·.add (a.toNat * n))) (b.toNat - a.toNat) (c - a.toNat) = v)
    (kk : GLk P ops (k + 1) N (kvPut K (opAt ops k).dst v) I L T) : GLk P ops k N K I L T := by
  subst hv
  obtain ⟨hu1, hu2⟩ := sliceElem_spec hu
  refine gl_step h (fun t ht W hW => ?_) kk
  have e1 : (a.toNat : Int) = a := by omega
  have e2 : (b.toNat : Int) = b := by omega
  rcases kvBound_spec hl with ⟨rfl, rfl⟩ | ⟨x, kx, rfl, hx'⟩
  · rcases kvBound_spec hh with ⟨rfl, rfl⟩ | ⟨y, ky, rfl, hy⟩
    · simp [execOp, ho, ht.op hs, Instr.sliceAt, Instr.slice, run_underlying' hu1, Instr.sliceBounds, hu2]
    · simp [execOp, ho, ht.op hs, ht.op hy, Instr.sliceAt, Instr.slice, run_underlying' hu1, Instr.sliceBounds, Instr.sliceBound, asIntOf, hu2, show 0 ≤ b by omega, h2]
  · rcases kvBound_spec hh with ⟨rfl, rfl⟩ | ⟨y, ky, rfl, hy⟩
    · simp [execOp, ho, ht.op hs, ht.op hx', Instr.sliceAt, Instr.slice, run_underlying' hu1, Instr.sliceBounds, Instr.sliceBound, asIntOf, hu2, h0, h1]
    · simp [execOp, ho, ht.op hs, ht.op hx', ht.op hy, Instr.sliceAt, Instr.slice, run_underlying' hu1, Instr.sliceBounds, Instr.sliceBound, asIntOf, hu2, show 0 ≤ b by omega, h2, e2, h0, h1]
/-- A copy into an owned block. -/
theorem gl_copyB {g off dLen dCap sLen m size : Nat} {tD tS e : TypeId} {sv : Value} {dx sx : Operand} {cells : Array Value} {e' : TypeId} {fz : Nat × Nat} {l : List Value} {L' : Own}
    (ho : (opAt ops k).op = .call { callee := .builtin .copy, args := #[dx, sx], argTypes := #[tD, tS] }) (h : readyKV ops k N K = true)
    (hd : kvOp K dx = some (.slice (some ⟨g, off, none⟩) dLen dCap)) (hs : kvOp K sx = some sv) (he : sliceElem P tD = some (e, size))
    (hlen : ∀ W, (Builtin.lenOf sv).run P W = .ok sLen W) (hm : Nat.min sLen dLen = m) (hl : ∀ W, Holds I L W → (Builtin.firstCells size m sv).run P W = .ok l.toArray W)
    (hU : Upd L [(g, .cells cells e' fz)] [(g, .cells (putSeg cells off l) e' fz)] L') (hf : FreeOf fz cells.size) (hfit : off + l.length ≤ cells.size) (h1 : ∀ v ∈ l, v.oneCell' = true)
    (kk : GLk P ops (k + 1) N (kvPut K (opAt ops k).dst (.int .i64 m)) I L' T) : GLk P ops k N K I L T := by
  refine gl_gen h fun t ht W hW => ?_
  obtain ⟨R, hR1, hR2⟩ := hW.upd hU
  obtain ⟨hu1, hu2⟩ := sliceElem_spec he
  obtain ⟨W', hs', hg, hne, ho1, ho2, ho3⟩ := store_block (P := P) (g := g) (t := e') (fz := fz) l off 0 cells W (hR1.mem (by simp)) hf (by omega) h1
  refine ⟨_, I, L', W', ?_, hR2 I W' (Holds.set (A := []) hR1 _ (by simpa using hg) hne ho1 ho2 ho3), kk⟩
  have hcopy : (Builtin.copy_ #[tD, tS] (opAt ops k).type #[.slice (some ⟨g, off, none⟩) dLen dCap, sv]).run P W = .ok (.int .i64 m) W' := by
    simp [Builtin.copy_, run_underlying' hu1, hlen, hm, hu2, hl W hW, hs', goInt]
  simp only [execOp, ho, resolve, invoke, builtin, Sem.run_bind, Sem.run_pure, Result.andThen_ok, List.map_toArray, List.map_cons, List.map_nil, ht.op hd, ht.op hs, hcopy]
/-- A row that is grown by zeros where there is no room. -/
theorem gl_appendZ {g i cnt c size : Nat} {t tx e : TypeId} {s x : Operand} {cells : Array Value} {e' : TypeId} {fz : Nat × Nat} {kx : IntKind}
    (ho : (opAt ops k).op = .call { callee := .builtin .append, args := #[s, x], argTypes := #[t, tx] }) (h : readyKV ops k N K = true)
    (hs : kvOp K s = some (.slice (some ⟨g, 0, none⟩) i c)) (hx : kvOp K x = some (.int .i64 (cnt : Int))) (htx : P.underlying tx = some (.int kx)) (he : sliceElem P t = some (e, size)) (hinfo : elemInfo P e size = true)
    (hg : c < i + cnt) (hc0 : 0 < cnt) (hmax : i + cnt ≤ maxLen') (hm : (g, Obj.cells cells e' fz) ∈ L) (hi : i * size ≤ cells.size)
    (kk : ∀ g2 cells2 c2, i + cnt ≤ c2 → cells2.size = c2 * size → (∀ j, j < i * size → cells2[j]? = cells[j]?) → GLk P ops (k + 1) N (kvPut K (opAt ops k).dst (.slice (some ⟨g2, 0, none⟩) (i + cnt) c2)) I ((g2, .cells cells2 e) :: L) T) : GLk P ops k N K I L T := by
  obtain ⟨hu1, hu2⟩ := sliceElem_spec he
  obtain ⟨ti, z, hti, hz, hsz, hzs, hby, hb0, hn0⟩ := elemInfo_spec hinfo
  unfold maxLen' at hmax
  refine gl_gen h fun tm ht W hW => ?_
  have hgW := hW.mem hm
  have hfit : ¬ (281474976710656 < Builtin.nextslicecap (i + cnt) c * ti.bytes) := by
    have h1 := nextslicecap_le (i + cnt) c hg
    have : Builtin.nextslicecap (i + cnt) c * ti.bytes ≤ (8 * (i + cnt) + 4096) * 8192 := Nat.mul_le_mul h1 hby
    omega
  have hcb : ¬ (281474976710656 < (cnt : Int) * (ti.bytes : Int)) := by
    have : cnt * ti.bytes ≤ 2147483648 * 8192 := Nat.mul_le_mul (by omega) hby
    have h2 : ((cnt * ti.bytes : Nat) : Int) = (cnt : Int) * (ti.bytes : Int) := by simp
    omega
  have hwrap : IntKind.wrap .i64 (cnt : Int) = cnt := by
    unfold IntKind.wrap
    simp [IntKind.bits, IntKind.signed]
    omega
  have hold : (Builtin.firstCells ti.size i (.slice (some ⟨g, 0, none⟩) i c)).run P W.drew = .ok (cells.toList.take (i * size)).toArray W.drew := by
    refine run_firstCells_some W.drew ti.size i ⟨g, 0, none⟩ i c _ (by rw [hsz, List.length_take, Array.length_toList]; omega) (fun j v hj => ?_)
    rw [List.getElem?_take] at hj
    split at hj
    · have hadd : (⟨g, 0, none⟩ : Addr).add j = ⟨g, j, none⟩ := by unfold Addr.add; split <;> simp_all
      rw [hadd]
      show World.cell? _ _ = _
      simp only [World.cell?, World.drew, hgW]
      simpa using hj
    · cases hj
  have hnz : ¬ (cnt * ti.size = 0) := by rw [hsz]; intro h; rcases Nat.mul_eq_zero.1 h with h | h <;> omega
  have hroom : ¬ (i + cnt ≤ c) := by omega
  have hneg : ¬ ((cnt : Int) < 0) := by omega
  have h63 : ¬ (9223372036854775807 < ((i : Int) + (cnt : Int))) := by omega
  have hr : (Builtin.append_ #[t, tx] (opAt ops k).type #[.slice (some ⟨g, 0, none⟩) i c, .int .i64 (cnt : Int)]).run P W =
      .ok (.slice (some ⟨W.heap.size, 0, none⟩) (i + cnt) (grownCap W (i + cnt) c e))
        (W.drew.alloc (.cells ((cells.toList.take (i * size)).toArray ++ Builtin.zeroCells z.cells cnt ++ Builtin.zeroCells z.cells (grownCap W (i + cnt) c e - (i + cnt))) e)) := by
    simp [Builtin.append_, run_underlying' hu1, run_underlying' htx, sizeOf, typeInfo, zeroValue, hti, hz, hroom, hneg, hcb, h63, hfit, hwrap, Question.forced, hold, newRow, grownCap, asInt, asIntOf, hnz]
  have hgc := grownCap_ge W (i + cnt) c e
  have htl : (cells.toList.take (i * size)).length = i * size := by rw [List.length_take, Array.length_toList]; omega
  refine ⟨_, I, _, _, ?_, (hW.drawn (W.drawn + 1)).new (.cells ((cells.toList.take (i * size)).toArray ++ Builtin.zeroCells z.cells cnt ++ Builtin.zeroCells z.cells (grownCap W (i + cnt) c e - (i + cnt))) e),
    kk W.heap.size _ (grownCap W (i + cnt) c e) hgc ?_ (fun j hj => ?_)⟩
  · simp only [execOp, ho, resolve, invoke, builtin, Sem.run_bind, Sem.run_pure, Result.andThen_ok, List.map_toArray, List.map_cons, List.map_nil, ht.op hs, ht.op hx, hr]
    rfl
  · simp only [Array.size_append, size_zeroCells, hzs, List.size_toArray, htl]
    rw [← Nat.add_mul, ← Nat.add_mul]; congr 1; omega
  · rw [Array.getElem?_append_left (by simp only [Array.size_append, List.size_toArray, htl]; omega), Array.getElem?_append_left (by simp only [List.size_toArray, htl]; exact hj)]
    simp only [List.getElem?_toArray, List.getElem?_take, if_pos hj, Array.getElem?_toList]
theorem gl_overlaps {f : FuncId} {fn : Func} {tS tR e size : Nat} {g1 g2 o1 o2 la ca lb cb : Nat} {c1 c2 : Array Value} {t1 t2 : TypeId} {fz : Nat × Nat} (hf : P.funcs[f]? = some fn) (h1 : (fn.name == "runtime.NumGoroutine") = false) (h2 : fn.body.isNone = true) (h3 : Extern.findNext fn = none) (h4 : Extern.find fn = some (Extern.SlicesOverlaps.overlaps #[tS, tS] #[tR]))
    (h : readyKV ops k N K = true) (hc : calleeFn K (opAt ops k) = some (f, [.slice (some ⟨g1, o1, none⟩) la ca, .slice (some ⟨g2, o2, none⟩) lb cb])) (he : sliceElem P tS = some (e, size))
    (hm1 : (g1, Obj.cells c1 t1) ∈ L) (hm2 : (g2, Obj.cells c2 t2 fz) ∈ L) (hne : g1 ≠ g2) (hz : c2.size ≠ 0)
    (kk : GLk P ops (k + 1) N (kvPut K (opAt ops k).dst (.bool false)) I L T) : GLk P ops k N K I L T := by
  obtain ⟨hu1, hu2⟩ := sliceElem_spec he
  refine gl_extern h hc (fun W hW => ?_) kk
  have e1 := hW.mem hm1
  have e2 := hW.mem hm2
  rw [run_callFunc_extern hf h1 h2 h3 h4]
  have := Lib.run_overlaps_apart (P := P) W tS tR e hu1 size hu2 ⟨g1, o1, none⟩ ⟨g2, o2, none⟩ la ca lb cb hne t1 t2 c1.size c2.size (by simp [World.shape?, e1]) (by simp [World.shape?, e2]) hz (by simp [World.frozen?, e1]) (by simp [World.frozen?, e1])
  simp only [show ([Value.slice (some ⟨g1, o1, none⟩) la ca, .slice (some ⟨g2, o2, none⟩) lb cb] : List Value).toArray = #[.slice (some ⟨g1, o1, none⟩) la ca, .slice (some ⟨g2, o2, none⟩) lb cb] from rfl, this]
  rfl
end
end Go.GB
