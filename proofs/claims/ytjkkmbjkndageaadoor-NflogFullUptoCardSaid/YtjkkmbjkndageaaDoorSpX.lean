/- What is spoilt: rows that were lent to a call and lie in a chunk of the caller's own. -/
import Derived.Test.YtjkkmbjkndageaaDoorGBB
import Derived.Test.YtjkkmbjkndageaaDoorGB14
import Derived.Test.YtjkkmbjkndageaaDoorChecked
set_option linter.unusedVariables false
set_option linter.unusedSimpArgs false
set_option maxRecDepth 100000
namespace Go.GB
open Go.RowKit
theorem Holds.weaken {J I : Imm} {L : Own} {W : World} (h : Holds I L W) (hJ : J ≤ I) : Holds J L W :=
  ⟨fun b o hb => h.imm b o (hJ.h b o hb), h.own, h.nd, fun p hp => (by
    cases h0 : J.h p.1 with
    | none => rfl
    | some o => have h1 := h.dj p hp; rw [hJ.h _ _ h0] at h1; cases h1), h.os.trans hJ.os, h.tape.trans hJ.tape, h.out.trans hJ.out, by rw [← hJ.dr]; exact h.dr⟩
section
variable {P : Program} {ops : Array Oper} {k N : Nat} {K : KV} {I : Imm} {L : Own} {T : TPost}
/-- A store into a block of the call's own of which nothing but its size is known. -/
theorem gl_storeRaw {T' : TypeId} {xp xv : Operand} {g off : Nat} {cs : Array Value} {e : TypeId} {fz : Nat × Nat} {v : Value} {b : Bool} {L' : Own} (ho : (opAt ops k).op = .store T' xp xv) (h : readyKV ops k N K = true)
    (hp : kvOp K xp = some (.pointer (some ⟨g, off, none⟩))) (hx : kvOp K xv = some v) (hT : aggInfo P T' = some (b, v.cells.size)) (hone : ∀ x ∈ v.cells.toList, x.oneCell' = true) (hfz : FreeOf fz cs.size) (hle : off + v.cells.size ≤ cs.size)
    (hU : Upd L [(g, Obj.cells cs e fz)] [(g, Obj.cells (putSeg cs off v.cells.toList) e fz)] L')
    (kk : GLk P ops (k + 1) N K I L' T) (hd : (opAt ops k).dst = none) : GLk P ops k N K I L T := by
  refine gl_gen_skip h fun t ht W hW => ?_
  obtain ⟨R, h1, h2⟩ := hW.upd hU
  obtain ⟨W', hs, hg, hne, ho1, ho2, ho3⟩ := store_block (P := P) (g := g) (t := e) (fz := fz) v.cells.toList off 0 cs W (h1.mem (by simp)) hfz (by rw [Array.length_toList]; omega) hone
  refine ⟨I, L', W', ?_, h2 I W' ?_, by rw [hd]; exact kk⟩
  · simp [execOp, ho, ht.op hp, ht.op hx, Instr.storeAt, Instr.sureAddr, storeVar, (aggInfo_spec hT).2, hs]
  · exact Holds.set (A := []) h1 _ (by simpa using hg) hne ho1 ho2 ho3
end
/-! ### Slices of slices whose rows lie in a chunk -/
def Row2 (X : Own) (A : Option Addr) (m : Nat) : Prop := m = 0 ∨ ∃ g cells fz, A = some ⟨g, 0, none⟩ ∧ (g, Obj.cells cells 54 fz) ∈ X ∧ FreeOf fz cells.size ∧ m * 2 ≤ cells.size
def El (oc : Array Value) (X : Own) (j : Nat) : Prop := ∃ A m c, oc[j]? = some (.slice A m c) ∧ m ≤ 2147483648 ∧ Row2 X A m
def Sp2 (X : Own) (A : Option Addr) (n : Nat) : Prop := n ≤ 2147483648 ∧ (n = 0 ∨ ∃ go oc fzo, A = some ⟨go, 0, none⟩ ∧ (go, Obj.cells oc 25 fzo) ∈ X ∧ FreeOf fzo oc.size ∧ n ≤ oc.size ∧ ∀ j, j < n → El oc X j)
theorem Row2.put {U V : Own} {g : Nat} {cells cells' : Array Value} {e : TypeId} {fz : Nat × Nat} (hs : cells'.size = cells.size) {A : Option Addr} {m : Nat} (h : Row2 (U ++ (g, Obj.cells cells e fz) :: V) A m) : Row2 (U ++ (g, Obj.cells cells' e fz) :: V) A m := by
  rcases h with h | ⟨g', c', fz', h1, h2, h3, h4⟩
  · exact .inl h
  · rcases List.mem_append.1 h2 with h5 | h5
    · exact .inr ⟨g', c', fz', h1, List.mem_append_left _ h5, h3, h4⟩
    · rcases List.mem_cons.1 h5 with h6 | h6
      · simp only [Prod.mk.injEq, Obj.cells.injEq] at h6
        obtain ⟨rfl, rfl, rfl, rfl⟩ := h6
        exact .inr ⟨g', cells', fz', h1, List.mem_append_right _ (by simp), by rw [hs]; exact h3, by rw [hs]; exact h4⟩
      · exact .inr ⟨g', c', fz', h1, List.mem_append_right _ (List.mem_cons_of_mem _ h6), h3, h4⟩
theorem El.put {oc : Array Value} {U V : Own} {g : Nat} {cells cells' : Array Value} {e : TypeId} {fz : Nat × Nat} (hs : cells'.size = cells.size) {j : Nat} (h : El oc (U ++ (g, Obj.cells cells e fz) :: V) j) : El oc (U ++ (g, Obj.cells cells' e fz) :: V) j :=
  let ⟨A, m, c, h1, h2, h3⟩ := h
  ⟨A, m, c, h1, h2, h3.put hs⟩
/-- A row of labels is written over. -/
theorem Sp2.inner {U V : Own} {g : Nat} {cells cells' : Array Value} {fz : Nat × Nat} (hs : cells'.size = cells.size) {A : Option Addr} {n : Nat} (h : Sp2 (U ++ (g, Obj.cells cells 54 fz) :: V) A n) : Sp2 (U ++ (g, Obj.cells cells' 54 fz) :: V) A n := by
  refine ⟨h.1, h.2.imp id ?_⟩
  rintro ⟨go, oc, fzo, h1, h2, h3, h4, h5⟩
  refine ⟨go, oc, fzo, h1, ?_, h3, h4, fun j hj => (h5 j hj).put hs⟩
  rcases List.mem_append.1 h2 with h6 | h6
  · exact List.mem_append_left _ h6
  · rcases List.mem_cons.1 h6 with h7 | h7
    · simp only [Prod.mk.injEq, Obj.cells.injEq] at h7
      exact absurd h7.2.2.1 (by decide)
    · exact List.mem_append_right _ (List.mem_cons_of_mem _ h7)
/-- A slice of labels is made nil. -/
theorem Sp2.outer {U V : Own} {g i : Nat} {oc oc' : Array Value} {fz : Nat × Nat} (hs : oc'.size = oc.size) (hi : ∀ j, j ≠ i → oc'[j]? = oc[j]?) (h0 : oc'[i]? = some (.slice none 0 0)) {A : Option Addr} {n : Nat} (h : Sp2 (U ++ (g, Obj.cells oc 25 fz) :: V) A n) : Sp2 (U ++ (g, Obj.cells oc' 25 fz) :: V) A n := by
  refine ⟨h.1, h.2.imp id ?_⟩
  rintro ⟨go, o1, fzo, h1, h2, h3, h4, h5⟩
  have keep : (go, Obj.cells o1 25 fzo) ∈ U ∨ (go, Obj.cells o1 25 fzo) ∈ V → ∃ go oc2 fzo, A = some ⟨go, 0, none⟩ ∧ (go, Obj.cells oc2 25 fzo) ∈ U ++ (g, Obj.cells oc' 25 fz) :: V ∧ FreeOf fzo oc2.size ∧ n ≤ oc2.size ∧ ∀ j, j < n → El oc2 (U ++ (g, Obj.cells oc' 25 fz) :: V) j := fun hm =>
    ⟨go, o1, fzo, h1, hm.elim (fun q => List.mem_append_left _ q) (fun q => List.mem_append_right _ (List.mem_cons_of_mem _ q)), h3, h4, fun j hj => (h5 j hj).put hs⟩
  rcases List.mem_append.1 h2 with h6 | h6
  · exact keep (.inl h6)
  · rcases List.mem_cons.1 h6 with h7 | h7
    · simp only [Prod.mk.injEq, Obj.cells.injEq] at h7
      obtain ⟨rfl, rfl, _, rfl⟩ := h7
      refine ⟨go, oc', fzo, h1, List.mem_append_right _ (by simp), by rw [hs]; exact h3, by rw [hs]; exact h4, fun j hj => ?_⟩
      by_cases hji : j = i
      · subst hji; exact ⟨none, 0, 0, h0, by omega, .inl rfl⟩
      · obtain ⟨A', m', c', q1, q2, q3⟩ := (h5 j hj).put (cells' := oc') hs
        exact ⟨A', m', c', by rw [hi j hji]; exact q1, q2, q3⟩
    · exact keep (.inr h7)
theorem atl_mem {I : Imm} {X L : Own} {g o : Nat} {cs : Array Value} {e : TypeId} {fz : Nat × Nat} {v : Value} (hm : (g, Obj.cells cs e fz) ∈ X) (h : cs[o]? = some v) : AtL I (X ++ L) ⟨g, o, none⟩ [v] := fun W hW j w hj => by
  cases j with
  | zero =>
    cases hj
    rw [add_zero']
    have := hW.own (g, Obj.cells cs e fz) (List.mem_append_left _ hm)
    simp only [World.cell?, this]
    exact h
  | succ j => simp at hj
theorem add_to (g j : Nat) : (⟨g, j, none⟩ : Addr) = (⟨g, 0, none⟩ : Addr).add j := by unfold Addr.add; split <;> simp_all
theorem upd_mid {U V L : Own} {p q : Nat × Obj} : Upd ((U ++ p :: V) ++ L) [p] [q] ((U ++ q :: V) ++ L) := by
  have h := Upd.app U (Upd.head [p] [q] (V ++ L))
  simpa using h
noncomputable def upTo (n : Nat) : Int → Option (Int ⊕ Unit) := fun s => bif decide (s < (n : Int)) then some (.inl (IntKind.wrap .i64 (s + 1))) else some (.inr ())
theorem upTo_eq {n : Nat} (hn : n < 4294967296) : ∀ (d i : Nat), i + d = n → loopO (upTo n) (i : Int) = some ()
  | 0, i, h => by
    obtain rfl : i = n := by omega
    rw [loopO_eq]
    unfold upTo
    rw [show decide ((i : Int) < (i : Int)) = false from decide_eq_false (by omega)]; rfl
  | d + 1, i, h => by
    rw [loopO_eq]
    have : upTo n (i : Int) = some (.inl ((i + 1 : Nat) : Int)) := by
      unfold upTo
      rw [show decide ((i : Int) < (n : Int)) = true from decide_eq_true (by omega), wrap_up (show i < 4294967296 by omega)]; rfl
    rw [this]
    exact upTo_eq hn d (i + 1) (by omega)
/-! ### New rows at rest, taken back as a chunk -/
def Good (J0 I : Imm) (B : Own) : Prop := (B.map Prod.fst).Nodup ∧ ∀ p ∈ B, I.h p.1 = some p.2 ∧ J0.h p.1 = none
theorem Good.add {J0 I : Imm} {B : Own} (h : Good J0 I B) {g : Nat} {o : Obj} (h1 : I.h g = some o) (h2 : J0.h g = none) : ∃ B', Good J0 I B' ∧ (∀ p ∈ B, p ∈ B') ∧ (g, o) ∈ B' := by
  by_cases hg : g ∈ B.map Prod.fst
  · obtain ⟨p, hp, hpe⟩ := List.mem_map.1 hg
    have e1 := (h.2 p hp).1
    rw [hpe, h1] at e1
    have : p = (g, o) := Prod.ext hpe (Option.some.inj e1).symm
    exact ⟨B, h, fun _ hp => hp, by rwa [this] at hp⟩
  · refine ⟨(g, o) :: B, ⟨by rw [List.map_cons, List.nodup_cons]; exact ⟨hg, h.1⟩, fun p hp => ?_⟩, fun _ hp => List.mem_cons_of_mem _ hp, by simp⟩
    rcases List.mem_cons.1 hp with rfl | hp
    · exact ⟨h1, h2⟩
    · exact h.2 p hp
/-- All rows of a list of new slices. -/
theorem Good.rows {α : Type} {d : Kd α} {J0 I : Imm} : ∀ (r : List (List α)) {B : Own}, Good J0 I B → ∀ (As : List (Option Addr)), As.length = r.length → (∀ (i : Nat) (x : List α) (A : Option Addr), r[i]? = some x → As[i]? = some A → FrRow d.n 54 J0 I A x.length) →
    ∃ B', Good J0 I B' ∧ (∀ p ∈ B, p ∈ B') ∧ ∀ (i : Nat) (x : List α) (A : Option Addr), r[i]? = some x → As[i]? = some A → x.length = 0 ∨ ∃ g cells fz, A = some ⟨g, 0, none⟩ ∧ (g, Obj.cells cells 54 fz) ∈ B' ∧ FreeOf fz cells.size ∧ x.length * d.n ≤ cells.size
  | [], B, h, As, _, _ => ⟨B, h, fun _ hp => hp, fun i x A hx => by simp at hx⟩
  | x :: r, B, h, [], hl, _ => by simp at hl
  | x :: r, B, h, A :: As, hl, hf => by
    obtain ⟨B1, g1, s1, m1⟩ : ∃ B1, Good J0 I B1 ∧ (∀ p ∈ B, p ∈ B1) ∧ (x.length = 0 ∨ ∃ g cells fz, A = some ⟨g, 0, none⟩ ∧ (g, Obj.cells cells 54 fz) ∈ B1 ∧ FreeOf fz cells.size ∧ x.length * d.n ≤ cells.size) := by
      rcases hf 0 x A rfl rfl with h0 | ⟨g, cells, fz, e1, e2, e3, e4, e5⟩
      · exact ⟨B, h, fun _ hp => hp, .inl h0⟩
      · obtain ⟨B1, g1, s1, m1⟩ := h.add e2 e5
        exact ⟨B1, g1, s1, .inr ⟨g, cells, fz, e1, m1, e3, e4⟩⟩
    obtain ⟨B2, g2, s2, m2⟩ := Good.rows (d := d) r g1 As (by simpa using hl) (fun i y A' hy hA => hf (i + 1) y A' (by simpa using hy) (by simpa using hA))
    refine ⟨B2, g2, fun p hp => s2 p (s1 p hp), fun i y A' hy hA => ?_⟩
    cases i with
    | zero =>
      simp only [List.getElem?_cons_zero, Option.some.injEq] at hy hA
      subst hy; subst hA
      exact m1.imp id fun ⟨g, cells, fz, e1, e2, e3⟩ => ⟨g, cells, fz, e1, s2 _ e2, e3⟩
    | succ i => exact m2 i y A' (by simpa using hy) (by simpa using hA)
theorem runAt_to {I J : Imm} {p : Addr} {cs : List Value} {o : Obj} (h : RunAt I p cs) (h1 : I.h p.block = some o) (h2 : J.h p.block = some o) : RunAt J p cs := fun j v hj => by
  have hc := h j v hj
  have hb : (p.add j).block = p.block := by unfold Addr.add; split <;> rfl
  unfold Imm.cell at hc ⊢
  rw [hb, h1] at hc
  rw [hb, h2]; exact hc
/-- One slice of new slices, and the chunk that holds its rows. -/
theorem fr_one {α : Type} {d : Kd α} (hd : Flat d) (hn : d.n = 2) {J0 I : Imm} {A : Option Addr} {c : Nat} {r : List (List α)} (h : RepS (Kd.fr J0 d 54) I A c r) (hf : FrRow 1 25 J0 I A r.length) {B : Own} (hB : Good J0 I B) :
    ∃ B', Good J0 I B' ∧ (∀ p ∈ B, p ∈ B') ∧ ∀ X, Good J0 I X → (∀ p ∈ B', p ∈ X) → RepS (Kd.sl d) (J0.adds X) A c r ∧ Sp2 X A r.length := by
  rcases hf with h0 | ⟨go, oc, fzo, rfl, e2, e3, e4, e5⟩
  · refine ⟨B, hB, fun _ hp => hp, fun X hX hs => ⟨⟨h.le, h.max, fun i x hx => ?_⟩, by rw [h0]; omega, .inl h0⟩⟩
    have := (List.getElem?_eq_some_iff.1 hx).1
    omega
  · obtain ⟨B1, g1, s1, m1⟩ := hB.add e2 e5
    have hel : ∀ i x, r[i]? = some x → ∃ Ai ci, oc[i]? = some (.slice Ai x.length ci) ∧ RepS d I Ai ci x ∧ FrRow d.n 54 J0 I Ai x.length ∧ RunAt I ⟨go, i, none⟩ [.slice Ai x.length ci] := fun i x hx => by
      obtain ⟨a, cs, ha, ⟨Ai, ci, rfl, q1, q2⟩, hr⟩ := h.at_ i x hx
      cases ha
      have hrr : RunAt I ⟨go, i, none⟩ [.slice Ai x.length ci] := by
        have : (⟨go, 0, none⟩ : Addr).add (i * (Kd.fr J0 d 54).n) = ⟨go, i, none⟩ := by rw [show (Kd.fr J0 d 54).n = 1 from rfl, Nat.mul_one]; exact (add_to go i).symm
        rwa [this] at hr
      have hc := hrr 0 _ rfl
      rw [add_zero'] at hc
      unfold Imm.cell at hc
      rw [e2] at hc
      exact ⟨Ai, ci, hc, q1, q2, hrr⟩
    have hel' : ∀ i : Nat, ∃ Ai, ∀ x, r[i]? = some x → ∃ ci, oc[i]? = some (.slice Ai x.length ci) ∧ RepS d I Ai ci x ∧ FrRow d.n 54 J0 I Ai x.length ∧ RunAt I ⟨go, i, none⟩ [.slice Ai x.length ci] := fun i => by
      cases hx : r[i]? with
      | none => exact ⟨none, fun x hx' => by cases hx'⟩
      | some x =>
        obtain ⟨Ai, ci, q⟩ := hel i x hx
        exact ⟨Ai, fun x' hx' => by cases hx'; exact ⟨ci, q⟩⟩
    obtain ⟨f, hfx⟩ := Classical.axiomOfChoice hel'
    have hAs : ∀ i x A', r[i]? = some x → ((List.range r.length).map f)[i]? = some A' → A' = f i := fun i x A' hx hA => by
      rw [List.getElem?_map, List.getElem?_range (List.getElem?_eq_some_iff.1 hx).1] at hA
      simpa using hA.symm
    obtain ⟨B2, g2, s2, m2⟩ := Good.rows (d := d) r g1 ((List.range r.length).map f) (by simp) (fun i x A' hx hA => by
        rw [hAs i x A' hx hA]
        obtain ⟨ci, _, _, q, _⟩ := hfx i x hx
        exact q)
    have hrow : ∀ i x, r[i]? = some x → x.length = 0 ∨ ∃ g cells fz, f i = some ⟨g, 0, none⟩ ∧ (g, Obj.cells cells 54 fz) ∈ B2 ∧ FreeOf fz cells.size ∧ x.length * d.n ≤ cells.size := fun i x hx => by
      refine m2 i x (f i) hx ?_
      rw [List.getElem?_map, List.getElem?_range (List.getElem?_eq_some_iff.1 hx).1]; rfl
    refine ⟨B2, g2, fun p hp => s2 p (s1 p hp), fun X hX hs => ⟨⟨h.le, h.max, fun i x hx => ?_⟩, h.max, .inr ⟨go, oc, fzo, rfl, hs _ (s2 _ m1), e3, by omega, fun j hj => ?_⟩⟩⟩
    · obtain ⟨ci, q1, q2, q3, q4⟩ := hfx i x hx
      refine ⟨⟨go, 0, none⟩, [.slice (f i) x.length ci], rfl, ⟨f i, ci, rfl, q2.le, q2.max, fun k y hy => ?_⟩, ?_⟩
      · obtain ⟨a, cs, ha, hR, hrun⟩ := q2.at_ k y hy
        rcases hrow i x hx with h0 | ⟨g, cells, fz, w1, w2, w3, w4⟩
        · have := (List.getElem?_eq_some_iff.1 hy).1; omega
        · rw [w1] at ha
          cases ha
          refine ⟨_, cs, w1, hd _ _ _ _ hR, runAt_to (o := Obj.cells cells 54 fz) hrun ?_ ?_⟩
          · rw [← add_to]; exact (g2.2 _ w2).1
          · rw [← add_to]; exact Imm.adds_at (p := (g, Obj.cells cells 54 fz)) hX.1 (hs _ w2)
      · have : (⟨go, 0, none⟩ : Addr).add (i * (Kd.sl d).n) = ⟨go, i, none⟩ := by rw [show (Kd.sl d).n = 1 from rfl, Nat.mul_one]; exact (add_to go i).symm
        rw [this]
        exact runAt_to (o := Obj.cells oc 25 fzo) q4 e2 (Imm.adds_at (p := (go, Obj.cells oc 25 fzo)) hX.1 (hs _ (s2 _ m1)))
    · obtain ⟨ci, q1, q2, q3, q4⟩ := hfx j r[j] (List.getElem?_eq_getElem hj)
      refine ⟨f j, r[j].length, ci, q1, q2.max, ?_⟩
      rcases hrow j r[j] (List.getElem?_eq_getElem hj) with h0 | ⟨g, cells, fz, w1, w2, w3, w4⟩
      · exact .inl h0
      · exact .inr ⟨g, cells, fz, w1, hs _ w2, w3, by rw [hn] at w4; exact w4⟩
/-- Two of them. -/
theorem fr_chunk {α : Type} {d : Kd α} (hd : Flat d) (hn : d.n = 2) {J0 I : Imm} {L : Own} {W : World} (hW : Holds I L W) (hJ : J0 ≤ I) {A A' : Option Addr} {c c' : Nat} {r r' : List (List α)} (h : RepS (Kd.fr J0 d 54) I A c r) (hf : FrRow 1 25 J0 I A r.length)
    (h' : RepS (Kd.fr J0 d 54) I A' c' r') (hf' : FrRow 1 25 J0 I A' r'.length) :
    ∃ X, Holds J0 (X ++ L) W ∧ RepS (Kd.sl d) (J0.adds X) A c r ∧ RepS (Kd.sl d) (J0.adds X) A' c' r' ∧ Sp2 X A r.length ∧ Sp2 X A' r'.length := by
  obtain ⟨B1, g1, _, k1⟩ := fr_one hd hn h hf (B := []) ⟨by simp, fun p hp => by simp at hp⟩
  obtain ⟨X, g2, s2, k2⟩ := fr_one hd hn h' hf' g1
  obtain ⟨a1, a2⟩ := k1 X g2 s2
  obtain ⟨b1, b2⟩ := k2 X g2 (fun _ hp => hp)
  have hw := hW.weaken hJ
  refine ⟨X, ⟨hw.imm, fun p hp => ?_, ?_, fun p hp => ?_, hw.os, hw.tape, hw.out, hw.dr⟩, a1, b1, a2, b2⟩
  · rcases List.mem_append.1 hp with hp | hp
    · exact hW.imm _ _ (g2.2 p hp).1
    · exact hw.own p hp
  · rw [List.map_append, List.nodup_append]
    refine ⟨g2.1, hw.nd, fun a ha b hb e => ?_⟩
    obtain ⟨p, hp, rfl⟩ := List.mem_map.1 ha
    obtain ⟨q, hq, rfl⟩ := List.mem_map.1 hb
    have e1 := hW.dj q hq
    rw [← e, (g2.2 p hp).1] at e1; cases e1
  · rcases List.mem_append.1 hp with hp | hp
    · exact (g2.2 p hp).2
    · exact hw.dj p hp
theorem fr_outer {α : Type} {d : Kd α} {e : TypeId} {J0 I J : Imm} {A : Option Addr} {c : Nat} {xs : List α} {C : Own} (h : OwnS d e I A c xs C) (hC : Has J C) (hn : ∀ p ∈ C, J0.h p.1 = none) : FrRow d.n e J0 J A xs.length := by
  rcases h with ⟨rfl, _, _, _⟩ | ⟨g, cells, fz, rfl, rfl, h3, h4, h5, _, _⟩
  · exact .inl rfl
  · exact .inr ⟨g, cells, fz, rfl, hC (g, .cells cells e fz) (by simp), h3, by rw [h5]; exact Nat.mul_le_mul_right _ h4, hn (g, .cells cells e fz) (by simp)⟩
end Go.GB
namespace Go.Proofs.YtjkkmbjkndageaaDoor
open Go.RowKit Go.GB
def spv : Value := .agg #[.string (⟨#[115, 112, 111, 105, 108, 116]⟩ : ByteArray), .string (⟨#[]⟩ : ByteArray)]
theorem spv_one : ∀ x ∈ spv.cells.toList, x.oneCell' = true := by
  intro x hx
  have h1 : x ∈ [Value.string (⟨#[115, 112, 111, 105, 108, 116]⟩ : ByteArray), Value.string (⟨#[]⟩ : ByteArray)] := hx
  rcases List.mem_cons.1 h1 with rfl | h1
  · rfl
  · rcases List.mem_cons.1 h1 with rfl | h1
    · rfl
    · cases h1
theorem nil_one : ∀ x ∈ (Value.slice none 0 0).cells.toList, x.oneCell' = true := by
  intro x hx
  have h1 : x ∈ [Value.slice none 0 0] := hx
  rcases List.mem_cons.1 h1 with rfl | h1
  · rfl
  · cases h1
/-- what is left of a chunk in which it was written: all slices whose rows lay there have them there still -/
def Left (X X' : Own) : Prop := ∀ A n, Sp2 X A n → Sp2 X' A n
set_option maxHeartbeats 1000000 in
theorem tocsinlaw26_spoil_walkX {X : Own} {n c0 : Nat} {A0 : Option Addr} {J0 : Imm} (hX : Sp2 X A0 n) (L : Own) :
    CallsTo Tryd.prog 22 #[.slice A0 n c0] J0 (X ++ L) (fun v I' L' => ∃ X', Left X X' ∧ v = .tuple #[] ∧ X' ++ L = L') := by
  have hn := hX.1
  refine callsTo_body (N := 29) Tryd.func22 (by kernel_rfl) (by kernel_rfl) (by kernel_rfl) ?_
  refine gk_pick [0] (K' := [(0, .slice A0 n c0)]) (by kernel_rfl) ?_
  refine gk_seq (by kernel_rfl) ?_
  refine gk_region (by kernel_rfl) ?_
  refine gl_pure 3 [0, 5, 6] (K' := [(0, .slice A0 n c0), (5, .int .i64 (n : Int)), (6, .int .i64 0)]) (by kernel_rfl) ?_
  refine gl_atE (by kernel_rfl) ?_
  refine ge_seq ?_
  refine gk_join (fun t I' L' => ∃ X', Left X X' ∧ J0 ≤ I' ∧ L' = X' ++ L ∧ Knows 29 [] t) ?_ ?_
  · refine gk_block (by kernel_rfl) ?_
    refine gk_pick [0, 5, 6] (K' := [(0, .slice A0 n c0), (5, .int .i64 (n : Int)), (6, .int .i64 0)]) (by kernel_rfl) ?_
    intro t hK
    refine gc_loop (upTo n) (fun s t I' L' => ∃ X', Left X X' ∧ J0 ≤ I' ∧ L' = X' ++ L ∧ (∃ i : Nat, s = (i : Int) ∧ i ≤ n) ∧ Knows 29 [(0, .slice A0 n c0), (5, .int .i64 (n : Int)), (6, .int .i64 s)] t) (by kernel_rfl) ?_ (upTo_eq (by omega) n 0 (by omega)) ⟨X, fun _ _ h => h, Imm.refl _, rfl, ⟨0, rfl, by omega⟩, hK⟩
    rintro s o t I1 L1 hb ⟨X1, hl1, hI1, rfl, ⟨i, rfl, hi⟩, hK1⟩
    unfold upTo at hb
    refine gk_at hK1 ?_
    refine gk_seq (by kernel_rfl) ?_
    refine gk_region (by kernel_rfl) ?_
    refine gl_pure 1 [0, 5, 6, 7] (K' := [(0, .slice A0 n c0), (5, .int .i64 (n : Int)), (6, .int .i64 (i : Int)), (7, .bool (decide ((i : Int) < (n : Int))))]) (by kernel_rfl) ?_
    refine gl_atE (by kernel_rfl) ?_
    refine ge_seq ?_
    refine gk_seq (by kernel_rfl) ?_
    refine gk_cond (b := (decide ((i : Int) < (n : Int)))) (by kernel_rfl) (by kernel_rfl) (fun hc => ?_) (fun hc => ?_)
    · have hb := cond_t hc hb
      have hin : i < n := by have := of_decide_eq_true hc; omega
      rcases (hl1 _ _ hX).2 with hz | ⟨go, oc, fzo, rfl, hmo, hfo, hno, hel⟩
      · omega
      obtain ⟨A, m, c, hoc, hm, hrow⟩ := hel i hin
      refine gk_skip (by kernel_rfl) ?_
      refine ge_seq ?_
      refine gk_seq (by kernel_rfl) ?_
      refine gk_block (by kernel_rfl) ?_
      refine gk_seq (by kernel_rfl) ?_
      refine gk_region (by kernel_rfl) ?_
      refine gl_pure 2 [0, 2, 5, 6] (K' := [(0, .slice (some ⟨go, 0, none⟩) n c0), (2, .int .i64 (i : Int)), (5, .int .i64 (n : Int)), (6, .int .i64 (i : Int))]) (by kernel_rfl) ?_
      refine gl_atE (by kernel_rfl) ?_
      refine ge_seq ?_
      refine gk_seq (by kernel_rfl) ?_
      refine gk_seq (by kernel_rfl) ?_
      refine gk_region (by kernel_rfl) ?_
      refine gl_pure 2 [0, 2, 5, 6, 9, 10] (K' := [(0, .slice (some ⟨go, 0, none⟩) n c0), (2, .int .i64 (i : Int)), (5, .int .i64 (n : Int)), (6, .int .i64 (i : Int)), (9, .slice (some ⟨go, 0, none⟩) n c0), (10, .int .i64 (i : Int))]) (by kernel_rfl) ?_
      have hia : ∃ a, some (⟨go, 0, none⟩ : Addr) = some a ∧ (⟨go, i, none⟩ : Addr) = a.add ((i : Int).toNat * 1) := ⟨_, rfl, by rw [Int.toNat_natCast, Nat.mul_one]; exact add_to go i⟩
      refine gl_indexAddrF (c := c0) (T' := 22) (e := 25) (xs := (.tmp 9)) (xi := (.tmp 10)) (kd := .i64) (len := n) hia (by omega) (by omega) (by kernel_rfl) (by kernel_rfl) (by kernel_rfl) (by kernel_rfl) (by kernel_rfl) ?_
      refine gl_loadO (T' := 25) (xp := (.tmp 11)) (p := ⟨go, i, none⟩) (c := .slice A m c) (n := 1) (by kernel_rfl) (by kernel_rfl) (by kernel_rfl) (by kernel_rfl) (atl_mem hmo hoc) ?_
      refine gl_pure 2 [0, 2, 5, 6, 13, 14] (K' := [(0, .slice (some ⟨go, 0, none⟩) n c0), (2, .int .i64 (i : Int)), (5, .int .i64 (n : Int)), (6, .int .i64 (i : Int)), (13, .int .i64 (m : Int)), (14, .int .i64 0)]) (by kernel_rfl) ?_
      refine gl_atE (by kernel_rfl) ?_
      refine ge_seq ?_
      refine gk_join (fun t I' L' => ∃ X', Left X X' ∧ (go, Obj.cells oc 25 fzo) ∈ X' ∧ L' = X' ++ L ∧ J0 ≤ I' ∧ Knows 29 [(0, .slice (some ⟨go, 0, none⟩) n c0), (2, .int .i64 (i : Int)), (5, .int .i64 (n : Int)), (6, .int .i64 (i : Int))] t) ?_ ?_
      · refine gk_block (by kernel_rfl) ?_
        refine gk_pick [0, 2, 5, 6, 13, 14] (K' := [(0, .slice (some ⟨go, 0, none⟩) n c0), (2, .int .i64 (i : Int)), (5, .int .i64 (n : Int)), (6, .int .i64 (i : Int)), (13, .int .i64 (m : Int)), (14, .int .i64 0)]) (by kernel_rfl) ?_
        intro t hK
        refine gc_loop (upTo m) (fun s t I' L' => ∃ X', Left X X' ∧ (go, Obj.cells oc 25 fzo) ∈ X' ∧ Row2 X' A m ∧ L' = X' ++ L ∧ J0 ≤ I' ∧ (∃ k : Nat, s = (k : Int) ∧ k ≤ m) ∧ Knows 29 [(0, .slice (some ⟨go, 0, none⟩) n c0), (2, .int .i64 (i : Int)), (5, .int .i64 (n : Int)), (6, .int .i64 (i : Int)), (13, .int .i64 (m : Int)), (14, .int .i64 s)] t) (by kernel_rfl) ?_ (upTo_eq (by omega) m 0 (by omega)) ⟨X1, hl1, hmo, hrow, rfl, hI1, ⟨0, rfl, by omega⟩, hK⟩
        rintro s o2 t I3 L3 hb2 ⟨X2, hl2, hmo2, hrow2, rfl, hI3, ⟨k, rfl, hk⟩, hK3⟩
        unfold upTo at hb2
        refine gk_at hK3 ?_
        refine gk_seq (by kernel_rfl) ?_
        refine gk_region (by kernel_rfl) ?_
        refine gl_pure 1 [0, 2, 5, 6, 13, 14, 15] (K' := [(0, .slice (some ⟨go, 0, none⟩) n c0), (2, .int .i64 (i : Int)), (5, .int .i64 (n : Int)), (6, .int .i64 (i : Int)), (13, .int .i64 (m : Int)), (14, .int .i64 (k : Int)), (15, .bool (decide ((k : Int) < (m : Int))))]) (by kernel_rfl) ?_
        refine gl_atE (by kernel_rfl) ?_
        refine ge_seq ?_
        refine gk_seq (by kernel_rfl) ?_
        refine gk_cond (b := (decide ((k : Int) < (m : Int)))) (by kernel_rfl) (by kernel_rfl) (fun hc2 => ?_) (fun hc2 => ?_)
        · have hb2 := cond_t hc2 hb2
          have hkm : k < m := by have := of_decide_eq_true hc2; omega
          rcases hrow2 with h0 | ⟨g, cells, fz, rfl, hmem, hfz, hsz⟩
          · omega
          obtain ⟨U, V, rfl⟩ := List.append_of_mem hmem
          refine gk_skip (by kernel_rfl) ?_
          refine ge_seq ?_
          refine gk_seq (by kernel_rfl) ?_
          refine gk_block (by kernel_rfl) ?_
          refine gk_seq (by kernel_rfl) ?_
          refine gk_region (by kernel_rfl) ?_
          refine gl_pure 2 [0, 2, 3, 5, 6, 13, 14] (K' := [(0, .slice (some ⟨go, 0, none⟩) n c0), (2, .int .i64 (i : Int)), (3, .int .i64 (k : Int)), (5, .int .i64 (n : Int)), (6, .int .i64 (i : Int)), (13, .int .i64 (m : Int)), (14, .int .i64 (k : Int))]) (by kernel_rfl) ?_
          refine gl_atE (by kernel_rfl) ?_
          refine ge_seq ?_
          refine gk_region (by kernel_rfl) ?_
          refine gl_pure 2 [0, 2, 3, 5, 6, 13, 14, 17, 18] (K' := [(0, .slice (some ⟨go, 0, none⟩) n c0), (2, .int .i64 (i : Int)), (3, .int .i64 (k : Int)), (5, .int .i64 (n : Int)), (6, .int .i64 (i : Int)), (13, .int .i64 (m : Int)), (14, .int .i64 (k : Int)), (17, .slice (some ⟨go, 0, none⟩) n c0), (18, .int .i64 (i : Int))]) (by kernel_rfl) ?_
          refine gl_indexAddrF (c := c0) (T' := 22) (e := 25) (xs := (.tmp 17)) (xi := (.tmp 18)) (kd := .i64) (len := n) hia (by omega) (by omega) (by kernel_rfl) (by kernel_rfl) (by kernel_rfl) (by kernel_rfl) (by kernel_rfl) ?_
          refine gl_loadO (T' := 25) (xp := (.tmp 19)) (p := ⟨go, i, none⟩) (c := .slice (some ⟨g, 0, none⟩) m c) (n := 1) (by kernel_rfl) (by kernel_rfl) (by kernel_rfl) (by kernel_rfl) (atl_mem hmo2 hoc) ?_
          refine gl_pure 2 [0, 2, 5, 6, 13, 14, 20, 21, 22] (K' := [(0, .slice (some ⟨go, 0, none⟩) n c0), (2, .int .i64 (i : Int)), (5, .int .i64 (n : Int)), (6, .int .i64 (i : Int)), (13, .int .i64 (m : Int)), (14, .int .i64 (k : Int)), (20, .slice (some ⟨g, 0, none⟩) m c), (21, .int .i64 (k : Int)), (22, spv)]) (by kernel_rfl) ?_
          have hka : ∃ a, some (⟨g, 0, none⟩ : Addr) = some a ∧ (⟨g, k * 2, none⟩ : Addr) = a.add ((k : Int).toNat * 2) := ⟨_, rfl, by rw [Int.toNat_natCast]; exact add_to g (k * 2)⟩
          refine gl_indexAddrF (c := c) (T' := 25) (e := 54) (xs := (.tmp 20)) (xi := (.tmp 21)) (kd := .i64) (len := m) hka (by omega) (by omega) (by kernel_rfl) (by kernel_rfl) (by kernel_rfl) (by kernel_rfl) (by kernel_rfl) ?_
          have hps : (putSeg cells (k * 2) spv.cells.toList).size = cells.size := putSeg_size _ _ _
          refine gl_storeRaw (T' := 54) (xp := (.tmp 23)) (xv := (.tmp 22)) (v := spv) (b := true) (g := g) (off := k * 2) (cs := cells) (e := 54) (fz := fz) (by kernel_rfl) (by kernel_rfl) (by kernel_rfl) (by kernel_rfl) (by kernel_rfl) spv_one hfz (by show k * 2 + 2 ≤ _; omega) upd_mid ?_ (by kernel_rfl)
          refine gl_atE (by kernel_rfl) ?_
          refine ge_block_normal ?_
          refine ge_seq ?_
          refine gk_region (by kernel_rfl) ?_
          refine gl_pure 2 [0, 2, 5, 6, 13, 14] (K' := [(0, .slice (some ⟨go, 0, none⟩) n c0), (2, .int .i64 (i : Int)), (5, .int .i64 (n : Int)), (6, .int .i64 (i : Int)), (13, .int .i64 (m : Int)), (14, .int .i64 (IntKind.wrap .i64 ((k : Int) + 1)))]) (by kernel_rfl) ?_
          refine gl_atE (by kernel_rfl) ?_
          obtain rfl := some_inj hb2
          have hmo3 : (go, Obj.cells oc 25 fzo) ∈ U ++ (g, Obj.cells (putSeg cells (k * 2) spv.cells.toList) 54 fz) :: V := by
            rcases List.mem_append.1 hmo2 with q | q
            · exact List.mem_append_left _ q
            · rcases List.mem_cons.1 q with q | q
              · simp only [Prod.mk.injEq, Obj.cells.injEq] at q
                exact absurd q.2.2.1 (by decide)
              · exact List.mem_append_right _ (List.mem_cons_of_mem _ q)
          exact ge_round fun t ht => ⟨_, fun A n h => (hl2 A n h).inner hps, hmo3, Row2.put hps (.inr ⟨g, cells, fz, rfl, hmem, hfz, hsz⟩), rfl, hI3, ⟨k + 1, wrap_up (by omega), hkm⟩, ht⟩
        · have hb2 := cond_f hc2 hb2
          refine gk_exit (by kernel_rfl) ?_
          refine ge_seq_exit ?_
          obtain rfl := some_inj hb2
          refine ge_round_out (fun hrr => ?_) (by intro h; cases h)
          refine ge_block_hit (by kernel_rfl) ?_
          exact ge_mid fun t ht => ⟨X2, hl2, hmo2, rfl, hI3, ht.pick (l := [0, 2, 5, 6]) (by kernel_rfl)⟩
      · rintro t I4 L4 ⟨X4, hl4, hmo4, rfl, hI4, hK4⟩
        obtain ⟨U, V, rfl⟩ := List.append_of_mem hmo4
        refine ge_at hK4 ?_
        refine ge_seq ?_
        refine gk_region (by kernel_rfl) ?_
        refine gl_pure 2 [0, 5, 6, 25, 26] (K' := [(0, .slice (some ⟨go, 0, none⟩) n c0), (5, .int .i64 (n : Int)), (6, .int .i64 (i : Int)), (25, .slice (some ⟨go, 0, none⟩) n c0), (26, .int .i64 (i : Int))]) (by kernel_rfl) ?_
        refine gl_indexAddrF (c := c0) (T' := 22) (e := 25) (xs := (.tmp 25)) (xi := (.tmp 26)) (kd := .i64) (len := n) hia (by omega) (by omega) (by kernel_rfl) (by kernel_rfl) (by kernel_rfl) (by kernel_rfl) (by kernel_rfl) ?_
        refine gl_storeRaw (T' := 25) (xp := (.tmp 27)) (xv := (.const (.slice none 0 0))) (v := .slice none 0 0) (b := false) (g := go) (off := i) (cs := oc) (e := 25) (fz := fzo) (by kernel_rfl) (by kernel_rfl) (by kernel_rfl) (by kernel_rfl) (by kernel_rfl) nil_one hfo (by show i + 1 ≤ _; omega) upd_mid ?_ (by kernel_rfl)
        refine gl_atE (by kernel_rfl) ?_
        refine ge_block_normal ?_
        refine ge_seq ?_
        refine gk_region (by kernel_rfl) ?_
        refine gl_pure 2 [0, 5, 6] (K' := [(0, .slice (some ⟨go, 0, none⟩) n c0), (5, .int .i64 (n : Int)), (6, .int .i64 (IntKind.wrap .i64 ((i : Int) + 1)))]) (by kernel_rfl) ?_
        refine gl_atE (by kernel_rfl) ?_
        obtain rfl := some_inj hb
        have hsz : (putSeg oc i (Value.slice none 0 0).cells.toList).size = oc.size := putSeg_size _ _ _
        have hcl : (Value.slice none 0 0).cells.toList = [Value.slice none 0 0] := rfl
        have hg := putSeg_get (Value.slice none 0 0).cells.toList oc i (by show i + 1 ≤ _; omega)
        have h1 : ∀ j, j ≠ i → (putSeg oc i (Value.slice none 0 0).cells.toList)[j]? = oc[j]? := fun j hj => by
          rw [hg, hcl, if_neg (by simp only [List.length_cons, List.length_nil]; omega)]
        have h2 : (putSeg oc i (Value.slice none 0 0).cells.toList)[i]? = some (.slice none 0 0) := by
          rw [hg, hcl, if_pos ⟨by omega, by simp⟩, Nat.sub_self]; rfl
        exact ge_round fun t ht => ⟨_, fun A n h => (hl4 A n h).outer hsz h1 h2, hI4, rfl, ⟨i + 1, wrap_up (by omega), hin⟩, ht⟩
    · have hb := cond_f hc hb
      refine gk_exit (by kernel_rfl) ?_
      refine ge_seq_exit ?_
      obtain rfl := some_inj hb
      refine ge_round_out (fun hrr => ?_) (by intro h; cases h)
      refine ge_block_hit (by kernel_rfl) ?_
      exact ge_mid fun t ht => ⟨X1, hl1, hI1, rfl, ht.pick (l := []) (by kernel_rfl)⟩
  · rintro t I2 L2 ⟨X2, hl2, hI2, rfl, hK2⟩
    refine ge_at hK2 ?_
    exact ge_result trivial ResOk.nil hI2 ⟨X2, hl2, rfl, rfl⟩
end Go.Proofs.YtjkkmbjkndageaaDoor
