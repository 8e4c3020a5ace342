/- Plain laws: the document's tokens are the lists'. -/
import Derived.Test.YtlhpclfkoblnkaaDoorLX8
set_option linter.unusedVariables false
set_option maxRecDepth 100000
namespace Go.GB
open Go.Lib
theorem find_from (c : Nat → Bool) {n k : Nat} (h : k ≤ n) : (List.range' k (n - k)).find? c = (List.range n).find? fun i => decide (k ≤ i) && c i := by
  have e : List.range n = List.range' 0 k ++ List.range' k (n - k) := by
    rw [List.range_eq_range', show List.range' 0 n = List.range' 0 (k + (n - k)) from by rw [Nat.add_sub_cancel' h], ← List.range'_append]; simp
  rw [e, List.find?_append]
  have h1 : (List.range' 0 k).find? (fun i => decide (k ≤ i) && c i) = none := by
    rw [List.find?_eq_none]
    intro x hx
    rw [List.mem_range'_1] at hx
    simp; omega
  rw [h1, Option.none_or]
  have h2 : ∀ l : List Nat, (∀ x ∈ l, k ≤ x) → l.find? (fun i => decide (k ≤ i) && c i) = l.find? c := by
    intro l
    induction l with
    | nil => intro _; rfl
    | cons x l ih =>
      intro hx
      rw [List.find?_cons, List.find?_cons, decide_eq_true (hx x (by simp)), Bool.true_and, ih (fun y hy => hx y (by simp [hy]))]
  rw [h2]
  intro x hx
  rw [List.mem_range'_1] at hx
  omega
theorem toksL_skip {l : List UInt8} {a k : Nat} (h : skipL l = k + skipL (l.drop k)) : toksL l a = toksL (l.drop k) (a + k) := by
  have hd : (l.drop k).drop (skipL (l.drop k)) = l.drop (skipL l) := by rw [List.drop_drop, ← h]
  by_cases he : l.drop (skipL l) = []
  · rw [toksL_end he, toksL_end (by rw [hd]; exact he)]
  · cases ho : oneL (l.drop (skipL l)) with
    | none => rw [toksL_bad he ho, toksL_bad (by rw [hd]; exact he) (by rw [hd]; exact ho), h]; congr 1; omega
    | some ktn =>
      obtain ⟨x, t, n⟩ := ktn
      have e1 := toksL_cons (a := a) he ho
      have e2 := toksL_cons (a := a + k) (l := l.drop k) (by rw [hd]; exact he) (by rw [hd]; exact ho)
      rw [e1, e2, List.drop_drop, h, show k + skipL (l.drop k) + n = k + (skipL (l.drop k) + n) from by omega, show a + (k + skipL (l.drop k)) + n = a + k + skipL (l.drop k) + n from by omega, show a + (k + skipL (l.drop k)) = a + k + skipL (l.drop k) from by omega]
theorem ofBytes_bi (l : List UInt8) : ofBytes (bi l) = ⟨l.toArray⟩ := by
  apply ba_eq
  rw [ofBytes_toList]
  unfold bi
  rw [List.map_map]
  show _ = l
  conv => rhs; rw [← List.map_id l]
  refine List.map_congr_left fun c _ => ?_
  show UInt8.ofNat (((c.toNat : Nat) : Int)).toNat = c
  rw [Int.toNat_natCast, UInt8.ofNat_toNat]
end Go.GB
namespace Go.Proofs.YtlhpclfkoblnkaaDoor
open Go.GB Go.Lib
theorem rUnits_at {i : Nat} (h : i < 7) : ∃ u : S93, tocsinref13_Units[i]? = some u ∧ tl u.f0 = uName i ∧ u.f1 = (uMs i : Int) := by
  match i, h with
  | 0, _ => exact ⟨_, rfl, rfl, rfl⟩
  | 1, _ => exact ⟨_, rfl, rfl, rfl⟩
  | 2, _ => exact ⟨_, rfl, rfl, rfl⟩
  | 3, _ => exact ⟨_, rfl, rfl, rfl⟩
  | 4, _ => exact ⟨_, rfl, rfl, rfl⟩
  | 5, _ => exact ⟨_, rfl, rfl, rfl⟩
  | 6, _ => exact ⟨_, rfl, rfl, rfl⟩
/-- a text stands at a place -/
theorem stands {s x : ByteArray} {a : Nat} (hs : s.size < 4294967296) (ha : a ≤ s.size) {α : Type} {f : ByteArray → Option α} {e : Option α} {r : Option α}
    (h1 : x.size ≤ s.size - a → f (s.extract a (a + x.size)) = r) (h2 : ¬ x.size ≤ s.size - a → e = r) :
    (bif decide (((x.size : Nat) : Int) ≤ IntKind.wrap .i64 ((s.size : Int) - (a : Int))) then Option.bind (sx s (a : Int) (IntKind.wrap .i64 ((a : Int) + (x.size : Int)))) f else e) = r := by
  rw [wrapN (n := s.size - a) (by omega) (by omega)]
  by_cases h : x.size ≤ s.size - a
  · rw [decide_eq_true (by omega), cond_true, wrapN (n := a + x.size) (by omega) (by omega), sx_tl (by omega) (by omega), Option.bind_some, h1 h]
  · rw [decide_eq_false (by omega), cond_false, h2 h]
theorem stands_eq {s x : ByteArray} {a : Nat} (h : x.size ≤ s.size - a) : ((s.extract a (a + x.size)).toList == x.toList) = (tl x).isPrefixOf ((tl s).drop a) := by
  rw [tl_inj, tl_extract, show a + x.size - a = x.size from by omega, Bool.eq_iff_iff, beq_iff_eq, List.isPrefixOf_iff_prefix, List.prefix_iff_eq_take, tl_len]
  exact ⟨fun h => h.symm, fun h => h.symm⟩
theorem stands_not {s x : ByteArray} {a : Nat} (h : ¬ x.size ≤ s.size - a) : (tl x).isPrefixOf ((tl s).drop a) = false := by
  rw [Bool.eq_false_iff]
  intro hp
  have := (List.isPrefixOf_iff_prefix.1 hp).length_le
  rw [List.length_drop, tl_len, tl_len] at this; omega
theorem runit_eq {s : ByteArray} {a first : Nat} (hs : s.size < 4294967296) (ha : a ≤ s.size) (hf : first ≤ 7) : tocsinref13_unit s (a : Int) (first : Int) = some (match unitR ((tl s).drop a) first with | some i => (i : Int) | none => -1) := by
  have hl := tl_len s
  unfold tocsinref13_unit
  have h := up_find_from (n := 7) (body := tocsinref13_unit_l24 s (a : Int))
    (fun i => if ((uName i).isPrefixOf ((tl s).drop a) && !(i == 4 && decide (gB ((tl s).drop a) 1 = 115))) then some (i : Int) else none)
    (fun i hi => by
      obtain ⟨u, hu, hu1, hu2⟩ := rUnits_at hi
      unfold tocsinref13_unit_l24
      rw [show ((tocsinref13_Units.length : Nat) : Int) = 7 from rfl, decide_eq_true (by omega), cond_true]
      have hix : ix tocsinref13_Units (i : Int) = some u := by rw [ix_nat]; exact hu
      refine bind_of hix ?_
      have key : ((uName i).isPrefixOf ((tl s).drop a) && !(i == 4 && decide (gB ((tl s).drop a) 1 = 115))) = true ∨ ((uName i).isPrefixOf ((tl s).drop a) && !(i == 4 && decide (gB ((tl s).drop a) 1 = 115))) = false := by
        cases ((uName i).isPrefixOf ((tl s).drop a) && !(i == 4 && decide (gB ((tl s).drop a) 1 = 115))) <;> simp
      refine bind_of (a := ((uName i).isPrefixOf ((tl s).drop a) && !(i == 4 && decide (gB ((tl s).drop a) 1 = 115)))) ?_ ?_
      · refine stands hs ha (fun hx => ?_) (fun hx => by rw [← hu1, stands_not hx]; rfl)
        rw [hix]
        simp only [Option.bind_some]
        rw [stands_eq hx, hu1]
        cases hp : (uName i).isPrefixOf ((tl s).drop a) with
        | false => rfl
        | true =>
          rw [cond_true, tl_inj, hu1]
          have hm : (uName i == tl (⟨#[109]⟩ : ByteArray)) = (i == 4) := by
            have : ∀ j : Fin 7, (uName j.val == [109]) = (j.val == 4) := by decide
            exact this ⟨i, hi⟩
          rw [hm]
          by_cases h4 : i = 4
          · subst h4
            rw [show ((4 : Nat) == 4) = true from rfl, cond_true]
            have hlen : 1 ≤ s.size - a := by
              have : u.f0.size = 1 := by rw [← tl_len, hu1]; rfl
              omega
            rw [wrapN (n := a + 1) (by omega) (by omega), gB_drop]
            by_cases hi2 : a + 1 < s.size
            · rw [decide_eq_true (by omega), cond_true, bx_tl hi2, Option.bind_some]
              rw [show (((gB (tl s) (a + 1) : Nat) : Int) == 115) = decide (gB (tl s) (a + 1) = 115) from by rw [Bool.eq_iff_iff, beq_iff_eq, decide_eq_true_eq]; omega]
              simp
            · rw [decide_eq_false (by omega), cond_false, gB_out (by omega)]; rfl
          · rw [show (i == 4) = false from by simp [h4]]; rfl
      · rcases key with hk | hk
        · rw [hk, cond_true, if_pos rfl]
        · rw [hk, cond_false, if_neg (by simp), wrapN (n := i + 1) (by omega) (by omega)])
    (by
      unfold tocsinref13_unit_l24
      rw [show ((tocsinref13_Units.length : Nat) : Int) = 7 from rfl]; rfl) (7 - first) first (by omega)
  refine bind_of h ?_
  rw [findSome_if, find_from _ hf]
  obtain ⟨o, ho⟩ : ∃ o, unitR ((tl s).drop a) first = o := ⟨_, rfl⟩
  rw [ho]
  unfold unitR at ho
  rw [ho]
  cases o <;> rfl
theorem rspan_loop {s : ByteArray} (hs : s.size < 4294967296) : ∀ (f a first : Nat), a ≤ s.size → first ≤ 7 → 8 ≤ first + f →
    loopO (tocsinref13_span_l17 s) ((a : Int), (first : Int)) = some (.inr ((a + spanRGo f ((tl s).drop a) first : Nat) : Int))
  | 0, a, first, _, h1, h2 => by omega
  | f + 1, a, first, ha, h1, h2 => by
    have hl := tl_len s
    have hdl := runL_le digN ((tl s).drop a)
    rw [List.length_drop] at hdl
    unfold spanRGo
    generalize hD : runL digN ((tl s).drop a) = D at *
    by_cases hd : D = 0
    · rw [if_pos hd]
      refine loopO_done (r := Sum.inr ((a + 0 : Nat) : Int)) ?_
      unfold tocsinref13_span_l17
      refine bind_of (rrun_eq hs ha) ?_
      rw [hD, hd, show (((a + 0 : Nat) : Int) == (a : Int)) = true from by simp]; rfl
    rw [if_neg hd, List.drop_drop]
    have hbody : tocsinref13_span_l17 s ((a : Int), (first : Int)) = match unitR ((tl s).drop (a + D)) first with
        | some i => some (.inl (((a + D + (uName i).length : Nat) : Int), ((i + 1 : Nat) : Int)))
        | none => some (.inr (.inr (a : Int))) := by
      unfold tocsinref13_span_l17
      refine bind_of (rrun_eq hs ha) ?_
      rw [hD, show (((a + D : Nat) : Int) == (((a : Int), (first : Int)) : Int × Int).1) = false from by rw [beq_eq_false_iff_ne]; show ¬ ((a + D : Nat) : Int) = (a : Int); omega, cond_false]
      refine bind_of (runit_eq hs (by omega) h1) ?_
      cases hu : unitR ((tl s).drop (a + D)) first with
      | none => rfl
      | some i =>
        obtain ⟨hi, hfi, hpre⟩ := unitR_some hu
        have hpl := hpre.length_le
        rw [List.length_drop] at hpl
        simp only
        rw [decide_eq_false (by omega), cond_false]
        obtain ⟨u, hu0, hu1, hu2⟩ := rUnits_at hi
        have husz : u.f0.size = (uName i).length := by rw [← tl_len, hu1]
        refine bind_of (show ix tocsinref13_Units (i : Int) = some u by rw [ix_nat]; exact hu0) ?_
        rw [husz, wrapN (n := a + D + (uName i).length) (by omega) (by omega), wrapN (n := i + 1) (by omega) (by omega)]
    cases hu : unitR ((tl s).drop (a + D)) first with
    | none =>
      rw [hu] at hbody
      rw [loopO_done hbody]; rfl
    | some i =>
      rw [hu] at hbody
      obtain ⟨hi, hfi, hpre⟩ := unitR_some hu
      have hpl := hpre.length_le
      rw [List.length_drop] at hpl
      simp only at hbody ⊢
      rw [loopO_step hbody, List.drop_drop, rspan_loop hs f _ _ (by omega) (by omega) (by omega)]
      simp only [Nat.add_assoc]
theorem rspan_eq {s : ByteArray} {a : Nat} (hs : s.size < 4294967296) (ha : a ≤ s.size) : tocsinref13_span s (a : Int) = some ((a + spanR ((tl s).drop a) : Nat) : Int) := by
  unfold tocsinref13_span
  exact bind_of (rspan_loop hs 8 a 0 ha (by omega) (by omega)) rfl
theorem rSigns_at {i : Nat} (h : i < 22) : ∃ u : ByteArray, tocsinref13_Signs[i]? = some u ∧ tl u = signsL.getD i [] := by
  have : ∀ j : Fin 22, (tocsinref13_Signs[j.val]?).map tl = some (signsL.getD j.val []) := by unfold tocsinref13_Signs; decide +kernel
  obtain ⟨u, h1, h2⟩ := Option.map_eq_some_iff.1 (this ⟨i, h⟩)
  exact ⟨u, h1, h2⟩
theorem rsign_eq {s : ByteArray} {a : Nat} (hs : s.size < 4294967296) (ha : a ≤ s.size) : tocsinref13_sign s (a : Int) = some (match signL ((tl s).drop a) with | some x => ⟨x.toArray⟩ | none => ⟨#[]⟩) := by
  unfold tocsinref13_sign
  have h := up_find_from (n := 22) (body := tocsinref13_sign_l24 s (a : Int))
    (fun i => if (signsL.getD i []).isPrefixOf ((tl s).drop a) then some (⟨(signsL.getD i []).toArray⟩ : ByteArray) else none)
    (fun i hi => by
      obtain ⟨u, hu, hu1⟩ := rSigns_at hi
      unfold tocsinref13_sign_l24
      rw [show ((tocsinref13_Signs.length : Nat) : Int) = 22 from rfl, decide_eq_true (by omega), cond_true]
      have hix : ix tocsinref13_Signs (i : Int) = some u := by rw [ix_nat]; exact hu
      refine bind_of hix ?_
      refine bind_of (a := (signsL.getD i []).isPrefixOf ((tl s).drop a)) ?_ ?_
      · refine stands hs ha (fun hx => ?_) (fun hx => by rw [← hu1, stands_not hx])
        rw [hix, Option.bind_some, stands_eq hx, hu1]
      · cases (signsL.getD i []).isPrefixOf ((tl s).drop a) with
        | true => rw [cond_true, if_pos rfl, hix, Option.bind_some, ← hu1]
        | false => rw [cond_false, if_neg (by simp), wrapN (n := i + 1) (by omega) (by omega)])
    (by
      unfold tocsinref13_sign_l24
      rw [show ((tocsinref13_Signs.length : Nat) : Int) = 22 from rfl]; rfl) 22 0 rfl
  refine bind_of h ?_
  rw [findSome_if, ← List.range_eq_range']
  have := find_getD [] (fun x => x.isPrefixOf ((tl s).drop a)) signsL
  rw [show signsL.length = 22 from rfl] at this
  unfold signL
  rw [← this]
  generalize (List.range 22).find? (fun i => (signsL.getD i []).isPrefixOf ((tl s).drop a)) = o
  cases o <;> rfl
end Go.Proofs.YtlhpclfkoblnkaaDoor
