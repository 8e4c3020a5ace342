/- slices.SortFunc by the kit's contract, at an order that parts whatever two are not one. -/
import Derived.Test.YtjkkmbjkndageaaDoorGB20
import Derived.Shelf.SlSortCmp.NoneTotal
set_option linter.unusedVariables false
set_option linter.unusedSimpArgs false
namespace Go.GB
open Go.RowKit
/-! ### What it makes of a list -/
structure SortOk {α : Type} (Q : α → Prop) (cmp : α → α → Option Int) (k : α → α → Int) : Prop where
  eq : ∀ x y, Q x → Q y → cmp x y = some (k x y)
  swo : Go.Sort.SWO (fun x y => decide (k x y < 0))
  anti : ∀ x y, ¬ k x y < 0 → ¬ k y x < 0 → x = y
def SortR {α : Type} (Q : α → Prop) (cmp : α → α → Option Int) (xs r : List α) : Prop := (∀ x ∈ xs, Q x) ∧ ∃ k, SortOk Q cmp k ∧ r.Perm xs ∧ r.Pairwise (fun x y => ¬ k y x < 0)
theorem SortR.unique {α : Type} {Q : α → Prop} {cmp : α → α → Option Int} {xs r r' : List α} (h : SortR Q cmp xs r) (h' : SortR Q cmp xs r') : r = r' := by
  obtain ⟨hq, k, hk, hp, hs⟩ := h
  obtain ⟨_, k', hk', hp', hs'⟩ := h'
  have e : ∀ x y, x ∈ xs → y ∈ xs → k x y = k' x y := fun x y hx hy => by
    have := hk.eq x y (hq x hx) (hq y hy)
    rw [hk'.eq x y (hq x hx) (hq y hy)] at this
    exact (Option.some.inj this).symm
  refine List.Perm.eq_of_pairwise (le := fun x y => ¬ k y x < 0) ?_ hs ?_ (hp.trans hp'.symm)
  · intro a b _ _ h1 h2; exact hk.anti a b h2 h1
  · refine hs'.imp_of_mem fun {a b} ha hb hab => ?_
    rw [e b a (hp'.mem_iff.1 hb) (hp'.mem_iff.1 ha)]; exact hab
open Classical in
noncomputable def sortO {α : Type} (Q : α → Prop) (cmp : α → α → Option Int) (xs : List α) : Option (List α) := if h : ∃ r, SortR Q cmp xs r then some h.choose else none
theorem sortO_some {α : Type} {Q : α → Prop} {cmp : α → α → Option Int} {xs r : List α} (h : sortO Q cmp xs = some r) : SortR Q cmp xs r := by
  unfold sortO at h
  split at h <;> cases h
  rename_i hx
  exact hx.choose_spec
theorem sortO_of {α : Type} {Q : α → Prop} {cmp : α → α → Option Int} {xs r : List α} (h : SortR Q cmp xs r) : sortO Q cmp xs = some r := by
  have hx : ∃ r, SortR Q cmp xs r := ⟨r, h⟩
  unfold sortO
  rw [dif_pos hx, hx.choose_spec.unique h]
theorem sortO_ex {α : Type} {Q : α → Prop} {cmp : α → α → Option Int} {k : α → α → Int} {xs : List α} (hq : ∀ x ∈ xs, Q x) (hk : SortOk Q cmp k) :
    ∃ r, sortO Q cmp xs = some r ∧ r.Perm xs ∧ r.Pairwise (fun x y => ¬ k y x < 0) := by
  have hp : (xs.mergeSort (fun x y => !(decide (k y x < 0)))).Perm xs := List.mergeSort_perm _ _
  have hs : (xs.mergeSort (fun x y => !(decide (k y x < 0)))).Pairwise (fun x y => ¬ k y x < 0) := by
    refine (List.pairwise_mergeSort (le := fun x y => !(decide (k y x < 0))) ?_ ?_ xs).imp (fun h => by simpa using h)
    · intro a b c h1 h2
      simp only [Bool.not_eq_true'] at h1 h2 ⊢
      exact hk.swo.ntrans c b a h2 h1
    · intro a b
      cases h : decide (k b a < 0) with
      | false => simp
      | true =>
        cases h2 : decide (k a b < 0) with
        | false => simp
        | true => have := hk.swo.trans a b a h2 h; rw [hk.swo.irrefl a] at this; cases this
  exact ⟨_, sortO_of ⟨hq, k, hk, hp, hs⟩, hp, hs⟩
theorem sortO_length {α : Type} {Q : α → Prop} {cmp : α → α → Option Int} {xs r : List α} (h : sortO Q cmp xs = some r) : r.length = xs.length := by
  obtain ⟨_, k, _, hp, _⟩ := sortO_some h
  exact hp.length_eq
/-! ### A world as it is, read -/
def snap (W : World) : Imm := ⟨fun b => W.heap[b]?, W.os, W.tape, W.output, W.drawn⟩
theorem snap_holds (W : World) : Holds (snap W) [] W := ⟨fun _ _ h => h, by simp, by simp, by simp, rfl, rfl, rfl, Nat.le_refl _⟩
theorem calls_snap {P : Program} {f : FuncId} {args : Array Value} {v : Value} {W : World} (h : CallsTo P f args (snap W) [] (fun v' I' L' => v' = v ∧ [] = L')) :
    Calls P f args W fun e W' => e = .returned v ∧ ∃ q os, W' = Go.Sort.grow (W.drewN q) os := by
  refine (h W (snap_holds W)).mono ?_
  rintro e W' ⟨v', I', L', rfl, hle, hh, rfl, rfl⟩
  refine ⟨rfl, W'.drawn - W.drawn, W'.heap.extract W.heap.size W'.heap.size, ?_⟩
  have h1 : ∀ b o, W.heap[b]? = some o → W'.heap[b]? = some o := fun b o hb => hh.imm b o (hle.h b o hb)
  have h2 : W'.os = W.os := hh.os.trans hle.os
  have h3 : W'.tape = W.tape := hh.tape.trans hle.tape
  have h4 : W'.output = W.output := hh.out.trans hle.out
  have h5 : W.drawn ≤ W'.drawn := by have := hh.dr; rw [hle.dr] at this; exact this
  have h6 : W'.heap = W.heap ++ W'.heap.extract W.heap.size W'.heap.size := by
    apply Array.ext_getElem?
    intro i
    rw [Array.getElem?_append]
    split
    · rename_i hi
      rw [h1 i _ (Array.getElem?_eq_getElem hi), Array.getElem?_eq_getElem hi]
    · rename_i hi
      rw [Array.getElem?_extract]
      split
      · congr 1; omega
      · rw [Array.getElem?_eq_none]; omega
  obtain ⟨hp, tp, dn, os', ot⟩ := W'
  simp only at h2 h3 h4 h5 h6
  subst h2 h3 h4
  simp only [Go.Sort.grow, World.drewN]
  rw [← h6, show W.drawn + (dn - W.drawn) = dn from by omega]
theorem Holds.grow {I : Imm} {L : Own} {W : World} (h : Holds I L W) (os : Array Obj) : Holds I L (Go.Sort.grow W os) := by
  have e : ∀ (b : Nat) (o : Obj), W.heap[b]? = some o → (Go.Sort.grow W os).heap[b]? = some o := fun b o hb => by
    show (W.heap ++ os)[b]? = _
    rw [Array.getElem?_append, if_pos (lt_of_heap hb)]; exact hb
  exact ⟨fun b o hI => e b o (h.imm b o hI), fun p hp => e p.1 p.2 (h.own p hp), h.nd, h.dj, h.os, h.tape, h.out, h.dr⟩
/-! ### A row of one cell each, with its cells -/
theorem row_pairs {α : Type} {d : Kd α} (hn : d.n = 1) {I : Imm} {cells : Nat → Option Value} : ∀ (xs : List α) (o : Nat), (∀ i x, xs[i]? = some x → ∃ l, d.R I x l ∧ ∀ j v, l[j]? = some v → cells (o + i + j) = some v) →
    ∃ D : List { p : Value × α // d.R I p.2 [p.1] }, D.map (fun b => b.1.2) = xs ∧ ∀ i b, D[i]? = some b → cells (o + i) = some b.1.1
  | [], _, _ => ⟨[], rfl, fun i b h => by simp at h⟩
  | x :: xs, o, h => by
    obtain ⟨D, hD, hc⟩ := row_pairs hn xs (o + 1) (fun i y hy => by obtain ⟨l, h1, h2⟩ := h (i + 1) y (by simpa using hy); exact ⟨l, h1, fun j v hj => by have := h2 j v hj; rwa [show o + (i + 1) + j = o + 1 + i + j from by omega] at this⟩)
    obtain ⟨l, h1, h2⟩ := h 0 x rfl
    have hl := d.len h1
    rw [hn] at hl
    obtain ⟨v, rfl⟩ := List.length_eq_one_iff.1 hl
    refine ⟨⟨(v, x), h1⟩ :: D, by simp [hD], fun i b hb => ?_⟩
    cases i with
    | zero => simp at hb; subst hb; exact h2 0 v rfl
    | succ i => have := hc i b (by simpa using hb); rwa [show o + 1 + i = o + (i + 1) from by omega] at this
theorem callsTo_sortFunc {P : Program} {ρ : Go.Shelf.Ren} (LY : Go.Proofs.SlLaysF.n6 P ρ) {α : Type} {d : Kd α} {e : TypeId} {I : Imm} {A : Option Addr} {c : Nat} {xs r : List α} {C : Own} {cmp : α → α → Option Int} {Q : α → Prop} {g : Nat}
    (hn : d.n = 1) (hQ : ∀ J x v, d.R J x [v] → Q x) (hO : OwnS d e I A c xs C) (hr : sortO Q cmp xs = some r) (eg : ∀ args w, (callFunc g args).run P w = .ok (.enter g args) w)
    (hc : ∀ {J : Imm} {x y : α} {vx vy : Value} {k : Int}, d.R J x [vx] → d.R J y [vy] → cmp x y = some k → ∀ L, CallsTo P g #[vx, vy] J L (fun v J' L' => v = .int .i64 k ∧ L = L')) (L : Own) :
    CallsTo P (ρ.f 6) #[.slice A xs.length c, .func (.func g) #[] #[]] I (C ++ L) (fun v I' L' => ∃ C', OwnS d e I' A c r C' ∧ v = .tuple #[] ∧ C' ++ L = L') := by
  intro W hW
  have hR := sortO_some hr
  obtain ⟨hq, k, hk, hp, hs⟩ := hR
  by_cases hx : xs = []
  · subst hx
    obtain rfl : r = [] := by simpa using hp
    exact (Go.Proofs.AnyF.slices_SortFunc_none { LY with } A c _ W).mono fun e W' ⟨he, hw⟩ => ⟨_, I, C ++ L, he, Imm.refl I, hw ▸ hW, C, hO, rfl, rfl⟩
  rcases hO with ⟨rfl, _, _⟩ | ⟨gb, cells, fz, rfl, rfl, hfz, hlc, hcs, hrow, hmx⟩
  · exact absurd rfl hx
  have hg : W.heap[gb]? = some (.cells cells e fz) := hW.own (gb, .cells cells e fz) (by simp)
  obtain ⟨D, hD, hDc⟩ := row_pairs (cells := fun j => cells[j]?) hn xs 0 (fun i x hx => by
    obtain ⟨l, h1, h2⟩ := hrow.at_ i x hx
    exact ⟨l, h1, fun j v hj => by have := h2 j v hj; rw [hn] at this; rwa [show 0 + i + j = i * 1 + j from by omega]⟩)
  have hDl : D.length = xs.length := by rw [← hD]; simp
  have hcl : cells.size = c := by rw [hcs, hn]; omega
  obtain ⟨b0, hb0⟩ : ∃ b, b ∈ D := by
    cases D with
    | nil => simp at hD; exact absurd hD hx
    | cons b D => exact ⟨b, by simp⟩
  haveI : Inhabited { p : Value × α // d.R I p.2 [p.1] } := ⟨b0⟩
  have hswo : Go.Sort.SWO (Go.Proofs.ltOf (fun x y : { p : Value × α // d.R I p.2 [p.1] } => k x.1.2 y.1.2)) := ⟨fun x => hk.swo.irrefl _, fun x y z => hk.swo.trans _ _ _, fun x y z => hk.swo.ntrans _ _ _⟩
  have hcmp : Go.Proofs.CmpLays1 P g #[] (fun b : { p : Value × α // d.R I p.2 [p.1] } => b.1.1) (fun x y => k x.1.2 y.1.2) gb 0 D.toArray.size W := by
    intro m os dk hs x y
    have hm : ∀ b o, I.h b = some o → (snap (Go.Proofs.sortWorld (fun b : { p : Value × α // d.R I p.2 [p.1] } => b.1.1) W gb 0 m dk os)).h b = some o := by
      intro b o hb
      have hne : gb ≠ b := fun e' => by have := hW.dj (gb, .cells cells e fz) (by simp); simp only [e'] at this; rw [this] at hb; cases hb
      have h1 := hW.imm b o hb
      show ((W.heap.modify gb _) ++ os)[b]? = some o
      rw [Array.getElem?_append, if_pos (by simpa using lt_of_heap h1), Array.getElem?_modify, if_neg hne]
      exact h1
    have hx2 := d.monoH hm x.2
    have hy2 := d.monoH hm y.2
    exact calls_snap (hc hx2 hy2 (hk.eq _ _ (hQ _ _ _ hx2) (hQ _ _ _ hy2)) [])
  have hH : Go.Sort.Holds (fun b : { p : Value × α // d.R I p.2 [p.1] } => b.1.1) W gb 0 D.toArray := by
    intro j hj
    have hj' : j < D.length := by simpa using hj
    have h1 := hDc j D[j] (List.getElem?_eq_getElem hj')
    simp only [Nat.zero_add] at h1 ⊢
    refine ⟨?_, ?_⟩
    · simp only [World.cell?, hg, Option.isSome_none, Bool.false_eq_true, if_false, h1]
      rw [getElem!_pos D.toArray j hj]; simp
    · simp only [World.frozen?, hg]
      have := hfz j (by omega)
      simp only [Bool.and_eq_false_iff, decide_eq_false_iff_not]
      omega
  have hmx' : xs.length ≤ 2147483648 := hmx
  have hcalls := Go.Proofs.Any.slices_SortFunc LY (fun b : { p : Value × α // d.R I p.2 [p.1] } => b.1.1) (fun b => d.one b.2 _ (by simp)) (fun x y => k x.1.2 y.1.2) hswo g #[] gb 0 c D.toArray W eg hcmp hH (lt_of_heap hg) (by simp; omega)
  rw [show D.toArray.size = xs.length from by simp [hDl]] at hcalls
  refine hcalls.mono ?_
  rintro e' W' ⟨he, d', n, os, hp', hs', rfl⟩
  have hds : d'.size = xs.length := by rw [hp'.1]; simp [hDl]
  have hpm : d'.toList.Perm D := by
    have := hp'.2.2
    rw [← hds, Array.extract_size] at this
    rw [show d'.size = D.toArray.size from by rw [hds]; simp [hDl], Array.extract_size] at this
    simpa using this
  have hrr : d'.toList.map (fun b => b.1.2) = r := by
    refine SortR.unique (Q := Q) (cmp := cmp) (xs := xs) ⟨hq, k, hk, by rw [← hD]; exact hpm.map _, ?_⟩ ⟨hq, k, hk, hp, hs⟩
    rw [List.pairwise_map, List.pairwise_iff_getElem]
    intro i j hi hj hij
    have hi' : i < d'.size := by simpa using hi
    have hj' : j < d'.size := by simpa using hj
    have := hs' i j (Nat.zero_le _) hij (by omega)
    rw [getElem!_pos d' j hj', getElem!_pos d' i hi'] at this
    simpa [Go.Proofs.ltOf] using this
  have hrl : r.length = xs.length := hp.length_eq
  obtain ⟨cells', hcells'⟩ : ∃ cells', Go.Sort.putCells (fun b : { p : Value × α // d.R I p.2 [p.1] } => b.1.1) 0 d' cells = cells' := ⟨_, rfl⟩
  have hsz' : cells'.size = cells.size := by rw [← hcells']; simp [Go.Sort.putCells]
  have hget : ∀ i (hi : i < d'.size), cells'[i]? = some (d'[i]).1.1 := fun i hi => by
    have hi2 : i < cells.size := by omega
    rw [← hcells', Go.Sort.putCells, Array.getElem?_mapIdx, Array.getElem?_eq_getElem hi2, Option.map_some]
    simp only [Nat.zero_le, true_and, Nat.zero_add, hi, if_true, Nat.sub_zero]
    rw [getElem!_pos d' i hi]
  refine ⟨_, I, (gb, .cells cells' e fz) :: L, he, Imm.refl I, ?_, [(gb, .cells cells' e fz)], .inr ⟨gb, cells', fz, rfl, rfl, by rw [hsz']; exact hfz, by omega, by rw [hsz']; exact hcs, ⟨fun i x hx => ?_⟩, by omega⟩, rfl, rfl⟩
  · refine Holds.grow (W := Go.Sort.putRow (fun b : { p : Value × α // d.R I p.2 [p.1] } => b.1.1) (Go.Sort.ahead W n) gb 0 d') (Holds.set (A := []) hW (.cells cells' e fz) ?_ (fun b hb => ?_) rfl rfl ⟨rfl, ?_⟩) os
    · show (W.heap.modify gb _)[gb]? = _
      rw [Array.getElem?_modify, if_pos rfl, hg]
      simp only [Option.map_some, Go.Sort.onCells, hcells']
    · show (W.heap.modify gb _)[b]? = _
      rw [Array.getElem?_modify, if_neg (Ne.symm hb)]
    · show W.drawn ≤ W.drawn + n
      omega
  · rw [← hrr, List.getElem?_map] at hx
    cases hb : d'.toList[i]? with
    | none => rw [hb] at hx; cases hx
    | some b =>
      rw [hb] at hx
      simp only [Option.map_some, Option.some.injEq] at hx
      subst hx
      obtain ⟨hi, hbe⟩ := List.getElem?_eq_some_iff.1 hb
      refine ⟨[b.1.1], b.2, fun j v hj => ?_⟩
      cases j with
      | zero =>
        simp at hj
        subst hj
        have := hget i (by simpa using hi)
        rw [hn, Nat.mul_one, Nat.add_zero]
        rw [this, ← hbe]; simp
      | succ j => simp at hj
end Go.GB
