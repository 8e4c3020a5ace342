/- LabelsTurns. -/
import Derived.Test.YtnlkfajnaelnnaaGreatDoorPG2u
import Derived.Test.YtnlkfajnaelnnaaGreatDoorL1u
import Derived.KernelRfl
import Derived.Lib.LaidU8T
import Derived.Shelf.Unicode.ValidAny
/- Plain laws of chapter 4: label sets that are sorted, made, picked: the program's are the document's. -/
set_option linter.unusedVariables false
set_option maxRecDepth 100000
namespace Go.Proofs.YtnlkfajnaelnnaaGreatDoor
open Go.GB Go.Lib
noncomputable abbrev ltN : LB → LB → Bool := ltc labels_sorted_1
theorem ltN_eq (x y : LB) : ltN x y = decide (cmpS x.f0 y.f0 = -1) := by
  show decide (labels_sorted_1 x y < 0) = _
  have h : labels_sorted_1 x y = cmpS x.f0 y.f0 := rfl
  rw [h]
  rcases cmpS_range x.f0 y.f0 with h | h | h <;> rw [h] <;> rfl
theorem swoN : Swo ltN := by
  refine ⟨fun a b h => ?_, fun a b c h1 h2 => ?_⟩
  · rw [ltN_eq] at h ⊢
    have h := of_decide_eq_true h
    rw [cmpS_swap a.f0 b.f0, h]; rfl
  · rw [ltN_eq] at h1 h2 ⊢
    have h1 := of_decide_eq_false h1
    have h2 := of_decide_eq_false h2
    refine decide_eq_false fun h3 => ?_
    have r1 := cmpS_range b.f0 a.f0
    have r2 := cmpS_range c.f0 b.f0
    have s1 := cmpS_swap b.f0 a.f0
    have s2 := cmpS_swap c.f0 b.f0
    have s3 := cmpS_swap c.f0 a.f0
    by_cases e1 : cmpS b.f0 a.f0 = 0
    · have := cmpS_zero e1; rw [this] at h2; exact h2 h3
    · by_cases e2 : cmpS c.f0 b.f0 = 0
      · have := cmpS_zero e2; rw [← this] at h1; exact h1 h3
      · have := cmpS_trans (a := a.f0) (b := b.f0) (c := c.f0) (by omega) (by omega)
        omega
theorem eqvN (k x : LB) : eqv ltN k x = true ↔ k.f0 = x.f0 := by
  rw [eqv_iff, ltN_eq, ltN_eq, decide_eq_false_iff_not, decide_eq_false_iff_not]
  constructor
  · rintro ⟨h1, h2⟩
    have r1 := cmpS_range k.f0 x.f0
    have s1 := cmpS_swap k.f0 x.f0
    exact cmpS_zero (by omega)
  · intro h; rw [h, cmpS_self]; constructor <;> omega
theorem stable_is : (slices_SortStableFunc : List LB → Option (List LB)) = gSortStable labels_sorted_1 := rfl
theorem stable_eq (l : List LB) (hl : l.length < 2147483648) : ∃ z, slices_SortStableFunc l = some z ∧ StS ltN l z := by
  rw [stable_is]; exact gSortStable_eq swoN l hl
theorem own_eq (l : List LB) (hl : l.length < 2147483648) : labels_own l = some l := by
  unfold labels_own mkrow
  rw [if_pos (by omega)]
  simp only [Option.bind_some, Int.toNat_natCast]
  unfold lcopy
  rw [List.length_replicate, List.take_of_length_le (Nat.le_refl _), List.drop_of_length_le (by simp), List.append_nil]
def hasV (x : LB) : Bool := !(x.f1.toList == (⟨#[]⟩ : ByteArray).toList)
/-- Two neighbours of one name. -/
def adjB (z : List LB) (n : Nat) : Bool := (List.range n).any fun i => bif decide (0 < i) then (match z[i - 1]?, z[i]? with | some x, some y => (x.f0.toList == y.f0.toList) | _, _ => false) else false
theorem adjB_succ (z : List LB) (i : Nat) (h : i < z.length) : adjB z (i + 1) = (adjB z i || (bif decide (0 < i) then (match z[i - 1]? with | some x => (x.f0.toList == z[i].f0.toList) | none => false) else false)) := by
  unfold adjB
  rw [List.range_succ, List.any_append, List.any_cons, List.any_nil, Bool.or_false, List.getElem?_eq_getElem h]
  congr 1
  cases decide (0 < i)
  · rfl
  · simp only [cond_true]
    cases z[i - 1]? <;> rfl
theorem sorted_eq (l : List LB) (hl : l.length < 2147483648) : ∃ z, labels_sorted l = some (z.filter hasV, adjB z z.length) ∧ StS ltN l z := by
  obtain ⟨z, h1, h2⟩ := stable_eq l hl
  refine ⟨z, ?_, h2⟩
  have hz : z.length = l.length := FE.length swoN _ rfl h2.1.symm
  unfold labels_sorted
  rw [own_eq l hl]
  simp only [Option.bind_some, h1]
  have key : ∀ d i : Nat, z.length - i = d → i ≤ z.length → loopO (labels_sorted_l45 z) ((z.take i).filter hasV, adjB z i, (i : Int)) = some (z.filter hasV, adjB z z.length) := by
    intro d
    induction d with
    | zero =>
      intro i hd hi
      obtain rfl : i = z.length := by omega
      rw [List.take_of_length_le (Nat.le_refl _)]
      refine loopO_done ?_
      unfold labels_sorted_l45
      rw [show decide ((z.length : Int) < (z.length : Int)) = false from decide_eq_false (by omega)]; rfl
    | succ d ih =>
      intro i hd hi
      have hlt : i < z.length := by omega
      have hx : ix z (i : Int) = some z[i] := by rw [ix_nat, List.getElem?_eq_getElem hlt]
      rw [loopO_step (s' := ((z.take (i + 1)).filter hasV, adjB z (i + 1), ((i + 1 : Nat) : Int))) (by
        unfold labels_sorted_l45
        rw [show decide ((i : Int) < (z.length : Int)) = true from decide_eq_true (by omega)]
        simp only [cond_true, hx, Option.bind_some]
        have hb : (bif adjB z i then some true else bif (decide ((i : Int) > 0)) then (Option.bind (ix z (IntKind.wrap .i64 ((i : Int) - 1))) fun (x65 : LB) => some (x65.f0.toList == z[i].f0.toList)) else some false) = some (adjB z (i + 1)) := by
          rw [adjB_succ z i hlt]
          cases adjB z i
          · by_cases h0 : 0 < i
            · rw [show decide ((i : Int) > 0) = true from decide_eq_true (by omega), show decide (0 < i) = true from decide_eq_true h0]
              rw [wrap64 (by omega) (by omega), show (i : Int) - 1 = ((i - 1 : Nat) : Int) by omega, ix_nat, List.getElem?_eq_getElem (show i - 1 < z.length by omega)]
              simp
            · rw [show decide ((i : Int) > 0) = false from decide_eq_false (by omega), show decide (0 < i) = false from decide_eq_false h0]
              rfl
          · rfl
        rw [hb]
        simp only [Option.bind_some, wrap_up (show i < 4294967296 by omega)]
        rw [show (!(z[i].f1.toList == (⟨#[]⟩ : ByteArray).toList)) = hasV z[i] from rfl]
        have ht : z.take (i + 1) = z.take i ++ [z[i]] := by rw [List.take_add_one, List.getElem?_eq_getElem hlt]; rfl
        rw [ht, List.filter_append]
        have hlen : ((z.take i).filter hasV).length ≤ i := Nat.le_trans (List.length_filter_le _ _) (by rw [List.length_take]; omega)
        cases hv : hasV z[i]
        · simp [hv]
        · rw [app_eq (by simp; omega)]
          simp [hv])]
      exact ih (i + 1) (by omega) (by omega)
  have k0 := key z.length 0 (by omega) (by omega)
  rw [List.take_zero, List.filter_nil] at k0
  have k1 : loopO (labels_sorted_l45 z) ([], false, 0) = some (z.filter hasV, adjB z z.length) := k0
  rw [k1]; rfl
/-- The document's insertion. -/
theorem refIns_loop (x : LB) (n : Nat) : ∀ (U V : List LB) (g : LB), U.length = n → U.length + V.length < 2147483648 →
    ∃ U' W g', U = U' ++ W ∧ loopO (tocsinref04_sorted_l74 x) (U ++ (g :: V), ((U.length : Nat) : Int)) = some (U' ++ (g' :: (W ++ V)), ((U'.length : Nat) : Int)) ∧ (∀ v ∈ W, ltN x v = true) ∧ (U' = [] ∨ ∃ U'' z, U' = U'' ++ [z] ∧ ltN x z = false) := by
  induction n with
  | zero =>
    intro U V g hn hl
    have : U = [] := List.length_eq_zero_iff.1 hn
    subst this
    refine ⟨[], [], g, rfl, loopO_done ?_, (fun v hv => by cases hv), .inl rfl⟩
    unfold tocsinref04_sorted_l74
    simp
  | succ n ih =>
    intro U V g hn hl
    obtain ⟨U', z, rfl⟩ := snoc_of (Y := U) (by omega)
    simp only [List.length_append, List.length_cons, List.length_nil] at hn hl
    have hl0 : (U' ++ [z]) ++ (g :: V) = U' ++ z :: ([] ++ g :: V) := by simp
    have ej : (((U' ++ [z]).length : Nat) : Int) = ((U'.length + 1 + ([] : List LB).length : Nat) : Int) := by simp
    have ei : IntKind.wrap .i64 ((((U' ++ [z]).length : Nat) : Int) - 1) = ((U'.length : Nat) : Int) := by
      simp only [List.length_append, List.length_cons, List.length_nil]; rw [wrap64 (by omega) (by omega)]; omega
    obtain ⟨e1, e2, e3, e4⟩ := ex_down hl0 rfl ej
    have hgt : decide ((((U' ++ [z]).length : Nat) : Int) > 0) = true := decide_eq_true (by simp only [List.length_append, List.length_cons, List.length_nil]; omega)
    have hcmp : (!((Op.bytesLess z.f0.toList x.f0.toList) || (z.f0.toList == x.f0.toList))) = ltN x z := by
      rw [less_eq, beq_eq, ltN_eq, cmpS_swap z.f0 x.f0]
      rcases cmpS_range z.f0 x.f0 with h | h | h <;> rw [h] <;> rfl
    cases hlt : ltN x z with
    | false =>
      refine ⟨U' ++ [z], [], g, by simp, loopO_done ?_, (fun v hv => by cases hv), .inr ⟨U', z, rfl, hlt⟩⟩
      unfold tocsinref04_sorted_l74
      simp only [hgt, cond_true, ei, e1, Option.bind_some, hcmp, hlt, cond_false, List.nil_append]
    | true =>
      obtain ⟨A, W, g', rfl, h1, h2, h3⟩ := ih U' (z :: V) z (by omega) (by simp; omega)
      refine ⟨A, W ++ [z], g', by simp, ?_, fun v hv => ?_, h3⟩
      · have e5 : lset (((A ++ W) ++ [z]) ++ (g :: V)) ((((A ++ W) ++ [z]).length : Nat) : Int) z = (A ++ W) ++ (z :: (z :: V)) := by
          rw [lset_at (A := (A ++ W) ++ [z]) (B := V) (x := g) rfl rfl]; simp
        rw [loopO_step (s' := ((A ++ W) ++ (z :: (z :: V)), (((A ++ W).length : Nat) : Int))) (by
          unfold tocsinref04_sorted_l74
          simp only [hgt, cond_true, ei, e1, Option.bind_some, hcmp, hlt, e2, e5]), h1]
        simp
      · rcases List.mem_append.1 hv with hv | hv
        · exact h2 v hv
        · rw [List.mem_singleton.1 hv]; exact hlt
theorem refSorted_eq (l : List LB) (hl : l.length < 2147483648) : ∃ z, tocsinref04_sorted l = some z ∧ StS ltN l z := by
  have key : ∀ d i : Nat, ∀ acc : List LB, l.length - i = d → i ≤ l.length → StS ltN (l.take i) acc → ∃ z, loopO (tocsinref04_sorted_l28 l) (acc, (i : Int)) = some z ∧ StS ltN l z := by
    intro d
    induction d with
    | zero =>
      intro i acc hd hi hS
      obtain rfl : i = l.length := by omega
      rw [List.take_of_length_le (Nat.le_refl _)] at hS
      refine ⟨acc, loopO_done ?_, hS⟩
      unfold tocsinref04_sorted_l28
      rw [show decide ((l.length : Int) < (l.length : Int)) = false from decide_eq_false (by omega)]; rfl
    | succ d ih =>
      intro i acc hd hi hS
      have hlt : i < l.length := by omega
      have hx : ix l (i : Int) = some l[i] := by rw [ix_nat, List.getElem?_eq_getElem hlt]
      have hacc : acc.length = i := by rw [FE.length swoN _ rfl hS.1.symm, List.length_take]; omega
      obtain ⟨U, W, g', rfl, h1, h2, h3⟩ := refIns_loop l[i] acc.length acc [] l[i] rfl (by simp; omega)
      have ht : l.take (i + 1) = l.take i ++ [l[i]] := by rw [List.take_add_one, List.getElem?_eq_getElem hlt]; rfl
      obtain ⟨z, hz, hz2⟩ := ih (i + 1) (U ++ (l[i] :: W)) (by omega) (by omega) (by rw [ht]; exact ins_sts swoN hS h2 h3)
      refine ⟨z, ?_, hz2⟩
      rw [loopO_step (s' := (U ++ (l[i] :: W), ((i + 1 : Nat) : Int))) (by
        unfold tocsinref04_sorted_l28
        rw [show decide ((i : Int) < (l.length : Int)) = true from decide_eq_true (by omega)]
        simp only [cond_true, hx, Option.bind_some]
        rw [app_eq (by rw [hacc]; simp; omega)]
        simp only [Option.bind_some, h1, List.append_nil]
        rw [ix_at (A := U) (B := W) (x := g') rfl rfl]
        simp only [Option.bind_some]
        rw [lset_at (A := U) (B := W) (x := g') rfl rfl, wrap_up (by omega)]), hz]
  obtain ⟨z, h1, h2⟩ := key l.length 0 [] (by omega) (by omega) (StS.self List.Pairwise.nil)
  refine ⟨z, ?_, h2⟩
  unfold tocsinref04_sorted
  have h1' : loopO (tocsinref04_sorted_l28 l) ([], 0) = some z := h1
  rw [h1']; rfl
end Go.Proofs.YtnlkfajnaelnnaaGreatDoor

/- Plain laws of chapter 4: names that stand twice; Make, Pick, With. -/
set_option linter.unusedVariables false
set_option maxRecDepth 100000
namespace Go.Proofs.YtnlkfajnaelnnaaGreatDoor
open Go.GB Go.Lib
/-- No name stands twice. -/
def Once (l : List LB) : Prop := ∀ k, (l.filter (eqv ltN k)).length ≤ 1
theorem Once.cons {x : LB} {l : List LB} : Once (x :: l) ↔ (∀ y ∈ l, x.f0 ≠ y.f0) ∧ Once l := by
  constructor
  · intro h
    refine ⟨fun y hy e => ?_, fun k => ?_⟩
    · have := h x
      rw [List.filter_cons_of_pos (swoN.eqv_self x), List.length_cons] at this
      have h2 : 0 < (l.filter (eqv ltN x)).length := List.length_pos_of_mem (List.mem_filter.2 ⟨hy, (eqvN x y).2 e⟩)
      omega
    · have := h k
      cases hk : eqv ltN k x with
      | true => rw [List.filter_cons_of_pos hk, List.length_cons] at this; omega
      | false => rw [List.filter_cons_of_neg (by rw [hk]; exact Bool.false_ne_true)] at this; exact this
  · rintro ⟨h1, h2⟩ k
    cases hk : eqv ltN k x with
    | true =>
      have hn : l.filter (eqv ltN k) = [] := by
        rw [List.filter_eq_nil_iff]
        intro y hy hky
        exact h1 y hy (((eqvN k x).1 hk).symm.trans ((eqvN k y).1 hky))
      rw [List.filter_cons_of_pos hk, hn]; simp
    | false => rw [List.filter_cons_of_neg (by rw [hk]; exact Bool.false_ne_true)]; exact h2 k
theorem Once.nil : Once [] := fun k => by simp
theorem right_eq (l : List LB) : labels_right l = some (rightE l).1 := by unfold labels_right; rw [Right_eq]; rfl
/-- The labels whose names are, are not, among some. -/
def hasB (names : List ByteArray) (s : ByteArray) : Bool := names.any fun x => (x.toList == s.toList)
theorem has_eq (names : List ByteArray) (s : ByteArray) (hn : names.length < 2147483648) : tocsinref04_has names s = some (hasB names s) := by
  unfold tocsinref04_has hasB
  rw [up_any (n := names.length) (fun j => (names[j]?).any fun y => (y.toList == s.toList)) true (fun j hj => ?_) ?_, any_range]
  · simp only [Option.bind_some]
    cases names.any fun x => (x.toList == s.toList) <;> rfl
  · unfold tocsinref04_has_l17
    rw [show decide ((names.length : Int) < (names.length : Int)) = false from decide_eq_false (by omega)]; rfl
  · unfold tocsinref04_has_l17
    rw [show decide ((j : Int) < (names.length : Int)) = true from decide_eq_true (by omega)]
    simp only [cond_true, ix_nat, List.getElem?_eq_getElem hj, Option.bind_some, wrap_up (show j < 4294967296 by omega), Option.any_some]
    cases (names[j].toList == s.toList) <;> rfl
theorem Contains_eq (names : List ByteArray) (s : ByteArray) (hn : names.length < 2147483648) : slices_Contains names s = some (hasB names s) := by
  unfold slices_Contains slices_Index hasB
  rw [up_find (n := names.length) (fun j => match names[j]? with | some y => if (s.toList == y.toList) = true then some (j : Int) else none | none => none) (fun j hj => ?_) ?_]
  · simp only [Option.bind_some]
    cases hf : (List.range names.length).findSome? (fun j => match names[j]? with | some y => if (s.toList == y.toList) = true then some (j : Int) else none | none => none) with
    | none =>
      rw [List.findSome?_eq_none_iff] at hf
      rw [show (names.any fun x => (x.toList == s.toList)) = false from by
        rw [List.any_eq_false]
        intro x hx
        obtain ⟨j, hj, rfl⟩ := List.getElem_of_mem hx
        have := hf j (List.mem_range.2 hj)
        rw [List.getElem?_eq_getElem hj] at this
        simp only at this
        split at this
        · cases this
        · rename_i h; intro e; exact h (toList_inj.2 (toList_inj.1 e).symm)]
      rfl
    | some b =>
      obtain ⟨j, hj, hjb⟩ := List.exists_of_findSome?_eq_some hf
      have hj' := List.mem_range.1 hj
      rw [List.getElem?_eq_getElem hj'] at hjb
      simp only at hjb
      split at hjb <;> try (cases hjb; done)
      rename_i h
      simp only [Option.some.injEq] at hjb
      subst hjb
      rw [show (names.any fun x => (x.toList == s.toList)) = true from List.any_eq_true.2 ⟨names[j], List.getElem_mem hj', toList_inj.2 (toList_inj.1 h).symm⟩]
      simp
  · unfold slices_Index_l17
    rw [show decide ((names.length : Int) < (names.length : Int)) = false from decide_eq_false (by omega)]; rfl
  · unfold slices_Index_l17
    rw [show decide ((j : Int) < (names.length : Int)) = true from decide_eq_true (by omega)]
    simp only [cond_true, ix_nat, List.getElem?_eq_getElem hj, Option.bind_some, wrap_up (show j < 4294967296 by omega)]
    cases (s.toList == names[j].toList) <;> rfl
theorem pick_eq (l : List LB) (b : Bool) (names : List ByteArray) (hl : l.length < 2147483648) (hn : names.length < 2147483648) : labels_pick l b names = some (l.filter fun x => (hasB names x.f0 == b)) := by
  unfold labels_pick
  rw [filter_up l (fun x => (hasB names x.f0 == b)) id (by omega) (fun acc i hi ha => ?_) (fun acc => ?_)]
  · rfl
  · unfold labels_pick_l28
    rw [show decide ((i : Int) < (l.length : Int)) = true from decide_eq_true (by omega)]
    simp only [cond_true, ix_nat, List.getElem?_eq_getElem hi, Option.bind_some, wrap_up (show i < 4294967296 by omega), Contains_eq names _ hn]
    rw [app_eq (by simp; omega)]
    cases (hasB names l[i].f0 == b) <;> rfl
  · unfold labels_pick_l28
    rw [show decide ((l.length : Int) < (l.length : Int)) = false from decide_eq_false (by omega)]; rfl
theorem refPick_eq (l : List LB) (b : Bool) (names : List ByteArray) (hl : l.length < 2147483648) (hn : names.length < 2147483648) : tocsinref04_Pick l names b = some (l.filter fun x => (hasB names x.f0 == b)) := by
  unfold tocsinref04_Pick
  rw [filter_up l (fun x => (hasB names x.f0 == b)) id (by omega) (fun acc i hi ha => ?_) (fun acc => ?_)]
  · rfl
  · unfold tocsinref04_Pick_l28
    rw [show decide ((i : Int) < (l.length : Int)) = true from decide_eq_true (by omega)]
    simp only [cond_true, ix_nat, List.getElem?_eq_getElem hi, Option.bind_some, wrap_up (show i < 4294967296 by omega), has_eq names _ hn]
    rw [app_eq (by simp; omega)]
    cases (hasB names l[i].f0 == b) <;> rfl
  · unfold tocsinref04_Pick_l28
    rw [show decide ((l.length : Int) < (l.length : Int)) = false from decide_eq_false (by omega)]; rfl
end Go.Proofs.YtnlkfajnaelnnaaGreatDoor

/- Plain laws: what a right label set is made of. -/
set_option linter.unusedVariables false
set_option maxRecDepth 100000
namespace Go.Proofs.YtnlkfajnaelnnaaGreatDoor
open Go.GB Go.Lib
theorem faultAt_ne {l : List S49} {i : Nat} {v : Int × Int} (h : faultAt l i = some v) : v.1 ≠ 0 := by
  unfold faultAt at h
  split at h
  · cases h
  · rename_i x _
    by_cases h1 : oneE x ≠ 0
    · rw [if_pos h1] at h; cases h; exact h1
    · rw [if_neg h1] at h
      split at h
      · cases h
      · split at h
        · cases h
        · split at h
          · cases h
          · cases h; show (3 : Int) ≠ 0; decide
theorem right_none {l : List S49} (h : (rightE l).1 = 0) : l.length ≤ 16 ∧ ∀ i, i < l.length → faultAt l i = none := by
  unfold rightE at h
  split at h
  · cases h
  · refine ⟨by omega, fun i hi => ?_⟩
    cases hf : (List.range l.length).findSome? (faultAt l) with
    | some v =>
      rw [hf] at h
      obtain ⟨j, _, hj⟩ := List.exists_of_findSome?_eq_some hf
      exact absurd h (faultAt_ne hj)
    | none => rw [List.findSome?_eq_none_iff] at hf; exact hf i (List.mem_range.2 hi)
theorem one_parts {x : S49} (h : oneE x = 0) : namedB x.f0 64 false = true ∧ x.f1.size ≠ 0 ∧ x.f1.size ≤ 256 ∧ validD x.f1.data.toList = true := by
  unfold oneE at h
  cases hn : namedB x.f0 64 false with
  | false => rw [hn] at h; cases h
  | true =>
    rw [hn] at h
    simp only [if_true] at h
    unfold valueE at h
    by_cases h0 : x.f1.size = 0
    · rw [if_pos h0] at h; cases h
    · rw [if_neg h0] at h
      by_cases h1 : x.f1.size > 256
      · rw [if_pos h1] at h; cases h
      · rw [if_neg h1] at h
        cases hv : validD x.f1.data.toList with
        | false => rw [hv] at h; cases h
        | true => exact ⟨rfl, h0, by omega, rfl⟩
theorem right_parts {l : List S49} (h : (rightE l).1 = 0) : l.length ≤ 16 ∧ ∀ x ∈ l, oneE x = 0 := by
  obtain ⟨h1, h2⟩ := right_none h
  refine ⟨h1, fun x hx => ?_⟩
  obtain ⟨i, hi, rfl⟩ := List.getElem_of_mem hx
  have := h2 i hi
  unfold faultAt at this
  rw [List.getElem?_eq_getElem hi] at this
  simp only at this
  by_cases h0 : oneE l[i] ≠ 0
  · rw [if_pos h0] at this; cases this
  · simpa using h0
end Go.Proofs.YtnlkfajnaelnnaaGreatDoor

/- Plain laws of chapter 4: With, Get; what is spoilt. -/
set_option linter.unusedVariables false
set_option maxRecDepth 100000
namespace Go.Proofs.YtnlkfajnaelnnaaGreatDoor
open Go.GB Go.Lib
theorem right_hasV {l : List LB} (h : (rightE l).1 = 0) : ∀ x ∈ l, hasV x = true := fun x hx => by
  have := (one_parts ((right_parts h).2 x hx)).2.1
  unfold hasV
  rw [nil_size]
  simp [this]
theorem filter_all {α : Type} {p : α → Bool} {l : List α} (h : ∀ x ∈ l, p x = true) : l.filter p = l := List.filter_eq_self.2 h
theorem With_eq (l : List LB) (n v : ByteArray) (hl : l.length < 2147483640) : ∃ r, labels_With l n v = some r ∧ tocsinref04_With l n v = some r ∧ r.1.length ≤ l.length + 1 ∧
    (r.2 = 0 → (rightE l).1 = 0 ∧ namedB n 64 false = true ∧ ((v.size = 0 ∧ r.1 = l.filter fun x => (hasB [n] x.f0 == false)) ∨ (v.size ≠ 0 ∧ StS ltN ((l.filter fun x => (hasB [n] x.f0 == false)) ++ [⟨n, v⟩]) r.1))) := by
  unfold labels_With tocsinref04_With
  simp only [right_eq, refRight_eq, Option.bind_some, Name_eq, refName_eq, pick_eq l false [n] (by omega) (by simp), refPick_eq l false [n] (by omega) (by simp)]
  by_cases h0 : (rightE l).1 = 0
  · rw [show ((rightE l).1 != 0) = false by rw [h0]; rfl]
    simp only [cond_false]
    cases hn : namedB n 64 false with
    | false => exact ⟨([], 40), rfl, rfl, by simp, fun h => by cases h⟩
    | true =>
      simp only [Bool.not_true, cond_false, nil_size]
      generalize hP : (l.filter fun x => (hasB [n] x.f0 == false)) = Pk
      have hPl : Pk.length ≤ l.length := by rw [← hP]; exact List.length_filter_le _ _
      by_cases hv : v.size = 0
      · simp only [hv, decide_true, cond_true]
        exact ⟨(Pk, 0), rfl, rfl, Nat.le_succ_of_le hPl, fun _ => ⟨h0, trivial, .inl ⟨trivial, rfl⟩⟩⟩
      · simp only [hv, decide_false, cond_false, value_eq, refOne_eq, Option.bind_some]
        rw [show oneE (⟨n, v⟩ : LB) = valueE v from by unfold oneE; simp only; rw [hn]; rfl]
        by_cases hve : valueE v = 0
        · rw [hve, show ((0 : Int) != 0) = false from rfl]
          simp only [cond_false]
          rw [app_eq (by simp; omega)]
          simp only [Option.bind_some]
          obtain ⟨z, h1, h2⟩ := sorted_eq (Pk ++ [⟨n, v⟩]) (by simp; omega)
          obtain ⟨w, h3, h4⟩ := refSorted_eq (Pk ++ [⟨n, v⟩]) (by simp; omega)
          have hzw : z = w := StS.uniq swoN h2 h4
          subst hzw
          have hzl : z.length = Pk.length + 1 := FE.length swoN _ (by simp) h2.1.symm
          have hall : z.filter hasV = z := filter_all fun x hx => by
            have := h2.1.mem swoN hx
            rcases List.mem_append.1 this with hx' | hx'
            · rw [← hP] at hx'; exact right_hasV h0 x (List.mem_filter.1 hx').1
            · rw [List.mem_singleton.1 hx']; unfold hasV; rw [nil_size]; simp [hv]
          rw [h1, h3]
          simp only [Option.bind_some, hall]
          by_cases hlen : z.length > 16
          · rw [show decide ((z.length : Int) > 16) = true from decide_eq_true (by omega)]
            exact ⟨([], 8), rfl, rfl, by simp, fun h => by cases h⟩
          · rw [show decide ((z.length : Int) > 16) = false from decide_eq_false (by omega)]
            exact ⟨(z, 0), rfl, rfl, by show z.length ≤ l.length + 1; omega, fun _ => ⟨h0, trivial, .inr ⟨hv, h2⟩⟩⟩
        · rw [show (valueE v != 0) = true by simpa using hve]
          exact ⟨([], valueE v), rfl, rfl, by simp, fun h => absurd h hve⟩
  · rw [show ((rightE l).1 != 0) = true by simpa using h0]
    exact ⟨([], (rightE l).1), rfl, rfl, by simp, fun h => absurd h h0⟩
theorem Without_eq (l : List LB) (names : List ByteArray) (hl : l.length < 2147483640) (hn : names.length < 2147483640) :
    labels_Without l names = some (bif (rightE l).1 != 0 then ([], (rightE l).1) else (l.filter fun x => (hasB names x.f0 == false), 0)) ∧
    labels_Keep l names = some (bif (rightE l).1 != 0 then ([], (rightE l).1) else (l.filter fun x => (hasB names x.f0 == true), 0)) ∧
    ∀ b, tocsinref04_Keep l names b = some (bif (rightE l).1 != 0 then ([], (rightE l).1) else (l.filter fun x => (hasB names x.f0 == b), 0)) := by
  refine ⟨?_, ?_, fun b => ?_⟩
  · unfold labels_Without
    simp only [right_eq, Option.bind_some, pick_eq l false names (by omega) (by omega)]
    cases (rightE l).1 != 0 <;> rfl
  · unfold labels_Keep
    simp only [right_eq, Option.bind_some, pick_eq l true names (by omega) (by omega)]
    cases (rightE l).1 != 0 <;> rfl
  · unfold tocsinref04_Keep
    simp only [refRight_eq, Option.bind_some, refPick_eq l b names (by omega) (by omega)]
    cases (rightE l).1 != 0 <;> rfl
end Go.Proofs.YtnlkfajnaelnnaaGreatDoor

/- Plain laws of chapter 4: what is spoilt. -/
set_option linter.unusedVariables false
set_option maxRecDepth 100000
namespace Go.Proofs.YtnlkfajnaelnnaaGreatDoor
open Go.GB Go.Lib
theorem Spoil_ok (l : List LB) (hl : l.length < 2147483640) : tocsinlaw04_Spoil_f28 l = some () := by
  unfold tocsinlaw04_Spoil_f28
  have key : ∀ d i : Nat, ∀ m : List LB, l.length - i = d → i ≤ l.length → m.length = l.length → ∃ z, loopO (tocsinlaw04_Spoil_f28_l25 l) (m, (i : Int)) = some z ∧ z.length = l.length := by
    intro d
    induction d with
    | zero =>
      intro i m hd hi hm
      refine ⟨m, loopO_done ?_, hm⟩
      unfold tocsinlaw04_Spoil_f28_l25
      rw [show decide ((i : Int) < (l.length : Int)) = false from decide_eq_false (by omega)]; rfl
    | succ d ih =>
      intro i m hd hi hm
      have hlt : i < m.length := by omega
      obtain ⟨z, hz, hz2⟩ := ih (i + 1) (lset m (i : Int) (⟨(⟨#[115, 112, 111, 105, 108, 116]⟩ : ByteArray), (⟨#[]⟩ : ByteArray)⟩ : LB)) (by omega) (by omega) (by rw [lset_length]; exact hm)
      refine ⟨z, ?_, hz2⟩
      rw [loopO_step ?_]
      · exact hz
      · unfold tocsinlaw04_Spoil_f28_l25
        rw [show decide ((i : Int) < (l.length : Int)) = true from decide_eq_true (by omega)]
        simp only [cond_true, ix_nat, List.getElem?_eq_getElem hlt, Option.bind_some, wrap_up (show i < 4294967296 by omega)]
  obtain ⟨z, hz, hz2⟩ := key l.length 0 l (by omega) (by omega) rfl
  have hz' : loopO (tocsinlaw04_Spoil_f28_l25 l) (l, 0) = some z := hz
  rw [hz']
  simp only [Option.bind_some]
  rw [app_eq (by simp; omega)]
  simp only [Option.bind_some]
  rw [ix_at (A := z) (B := []) (x := (⟨(⟨#[115, 112, 111, 105, 108, 116]⟩ : ByteArray), (⟨#[]⟩ : ByteArray)⟩ : LB)) rfl (by rw [List.length_append, List.length_singleton, wrap64 (by omega) (by omega)]; omega)]
  rfl
end Go.Proofs.YtnlkfajnaelnnaaGreatDoor

set_option linter.unusedVariables false
set_option linter.unusedSimpArgs false
set_option maxRecDepth 100000
namespace Go.Proofs.YtnlkfajnaelnnaaGreatDoor
open Go.GB
noncomputable def labels_Hash_1_l16_c (a0 : ByteArray) : (Int × Int) → Option ((Int × Int) ⊕ (Int)) := fun s7 =>
  bif (decide (s7.2 < (a0.size : Int))) then
  (Option.bind (bx a0 s7.2) fun (c19 : Int) =>
    some (Sum.inl ((IntKind.wrap .u64 ((bitXor .u64 s7.1 (IntKind.wrap .u64 c19)) * 1099511628211)), (IntKind.wrap .i64 (s7.2 + 1)))))
  else
  (some (Sum.inr s7.1))
theorem labels_Hash_1_l16_ev (a0 : ByteArray) (s7 : Int × Int) : OLe (labels_Hash_1_l16_c a0 s7) (labels_Hash_1_l16 a0 s7) := by
  unfold labels_Hash_1_l16_c labels_Hash_1_l16
  exact (OLe.cond (OLe.bind (OLe.refl _) (fun _ => (OLe.refl _))) (OLe.refl _))
noncomputable def labels_Hash_1_c (a0 : ByteArray) (a1 : Int) : Option Int :=
  Option.bind (loopF 1000000 (labels_Hash_1_l16_c a0) (a1, 0)) fun (r5 : Int) =>
  some (IntKind.wrap .u64 ((bitXor .u64 r5 255) * 1099511628211))
theorem labels_Hash_1_ev (a0 : ByteArray) (a1 : Int) : OLe (labels_Hash_1_c a0 a1) (labels_Hash_1 a0 a1) := by
  unfold labels_Hash_1_c labels_Hash_1
  exact (OLe.bind (OLe.loop (fun _ => labels_Hash_1_l16_ev _ _)) (fun _ => (OLe.refl _)))
noncomputable def labels_Hash_l17_c (a0 : List S49) : (Int × Int) → Option ((Int × Int) ⊕ (Int)) := fun s8 =>
  bif (decide (s8.2 < (a0.length : Int))) then
  (Option.bind (ix a0 s8.2) fun (x20 : S49) =>
    Option.bind (labels_Hash_1_c x20.f0 s8.1) fun (y29 : Int) =>
    Option.bind (labels_Hash_1_c x20.f1 y29) fun (y34 : Int) =>
    some (Sum.inl (y34, (IntKind.wrap .i64 (s8.2 + 1)))))
  else
  (some (Sum.inr s8.1))
theorem labels_Hash_l17_ev (a0 : List S49) (s8 : Int × Int) : OLe (labels_Hash_l17_c a0 s8) (labels_Hash_l17 a0 s8) := by
  unfold labels_Hash_l17_c labels_Hash_l17
  exact (OLe.cond (OLe.bind (OLe.refl _) (fun _ => (OLe.bind (labels_Hash_1_ev _ _) (fun _ => (OLe.bind (labels_Hash_1_ev _ _) (fun _ => (OLe.refl _))))))) (OLe.refl _))
noncomputable def labels_Hash_c (a0 : List S49) : Option Int :=
  Option.bind (loopF 1000000 (labels_Hash_l17_c a0) (14695981039346656037, 0)) fun (r6 : Int) =>
  some r6
theorem labels_Hash_ev (a0 : List S49) : OLe (labels_Hash_c a0) (labels_Hash a0) := by
  unfold labels_Hash_c labels_Hash
  exact (OLe.bind (OLe.loop (fun _ => labels_Hash_l17_ev _ _)) (fun _ => (OLe.refl _)))
noncomputable def labels_reader_blanks_l16_c (a0 : S89) : Int → Option ((Int) ⊕ (Int)) := fun s7 =>
  Option.bind (bif (decide (s7 < (a0.f0.size : Int))) then
    (Option.bind (bx a0.f0 s7) fun (c24 : Int) =>
      bif (c24 == 32) then
      (some true)
      else
      (Option.bind (bx a0.f0 s7) fun (c27 : Int) =>
        some (c27 == 9)))
    else
    (some false)) fun (j18 : Bool) =>
  bif j18 then
  (some (Sum.inl (IntKind.wrap .i64 (s7 + 1))))
  else
  (some (Sum.inr s7))
theorem labels_reader_blanks_l16_ev (a0 : S89) (s7 : Int) : OLe (labels_reader_blanks_l16_c a0 s7) (labels_reader_blanks_l16 a0 s7) := by
  unfold labels_reader_blanks_l16_c labels_reader_blanks_l16
  exact (OLe.bind (OLe.cond (OLe.bind (OLe.refl _) (fun _ => (OLe.cond (OLe.refl _) (OLe.bind (OLe.refl _) (fun _ => (OLe.refl _)))))) (OLe.refl _)) (fun _ => (OLe.cond (OLe.refl _) (OLe.refl _))))
noncomputable def labels_reader_blanks_c (a0 : S89) : Option S89 :=
  Option.bind (loopF 1000000 (labels_reader_blanks_l16_c a0) a0.f1) fun (r5 : Int) =>
  some (⟨a0.f0, r5, a0.f2⟩ : S89)
theorem labels_reader_blanks_ev (a0 : S89) : OLe (labels_reader_blanks_c a0) (labels_reader_blanks a0) := by
  unfold labels_reader_blanks_c labels_reader_blanks
  exact (OLe.bind (OLe.loop (fun _ => labels_reader_blanks_l16_ev _ _)) (fun _ => (OLe.refl _)))
noncomputable def labels_named_l33_c (a2 : Bool) (l11 : List Int) : Int → Option ((Int) ⊕ ((Unit) ⊕ (Bool))) := fun s23 =>
  bif (decide (s23 < (l11.length : Int))) then
  (Option.bind (ix l11 s23) fun (x36 : Int) =>
    bif (((!(labels_letter x36)) && (!(labels_digit x36))) && (!(a2 && (x36 == 58)))) then
    (some (Sum.inr (Sum.inr false)))
    else
    (some (Sum.inl (IntKind.wrap .i64 (s23 + 1)))))
  else
  (some (Sum.inr (Sum.inl ())))
theorem labels_named_l33_ev (a2 : Bool) (l11 : List Int) (s23 : Int) : OLe (labels_named_l33_c a2 l11 s23) (labels_named_l33 a2 l11 s23) := by
  unfold labels_named_l33_c labels_named_l33
  exact (OLe.cond (OLe.bind (OLe.refl _) (fun _ => (OLe.cond (OLe.refl _) (OLe.refl _)))) (OLe.refl _))
noncomputable def labels_named_c (a0 : ByteArray) (a1 : Int) (a2 : Bool) : Option Bool :=
  Option.bind (bif (a0.toList == (⟨#[]⟩ : ByteArray).toList) then
    (some true)
    else
    (bif (decide ((a0.size : Int) > a1)) then
      (some true)
      else
      (Option.bind (bx a0 0) fun (c8 : Int) =>
        some (labels_digit c8)))) fun (j1 : Bool) =>
  bif j1 then
  (some false)
  else
  (Option.bind (sb a0) fun (l11 : List Int) =>
    Option.bind (loopF 1000000 (labels_named_l33_c a2 l11) 0) fun (r21 : (Unit) ⊕ (Bool)) =>
    match r21 with
    | Sum.inl r29 => some true
    | Sum.inr v54 => some v54)
theorem labels_named_ev (a0 : ByteArray) (a1 : Int) (a2 : Bool) : OLe (labels_named_c a0 a1 a2) (labels_named a0 a1 a2) := by
  unfold labels_named_c labels_named
  exact (OLe.bind (OLe.cond (OLe.refl _) (OLe.cond (OLe.refl _) (OLe.bind (OLe.refl _) (fun _ => (OLe.refl _))))) (fun _ => (OLe.cond (OLe.refl _) (OLe.bind (OLe.refl _) (fun _ => (OLe.bind (OLe.loop (fun _ => labels_named_l33_ev _ _ _)) (fun j => by cases j with | inl a => exact (OLe.refl _) | inr b => exact (OLe.refl _))))))))
noncomputable def labels_Metric_c (a0 : ByteArray) : Option Bool :=
  Option.bind (labels_named_c a0 256 true) fun (y1 : Bool) =>
  some y1
theorem labels_Metric_ev (a0 : ByteArray) : OLe (labels_Metric_c a0) (labels_Metric a0) := by
  unfold labels_Metric_c labels_Metric
  exact (OLe.bind (labels_named_ev _ _ _) (fun _ => (OLe.refl _)))
noncomputable def labels_Name_c (a0 : ByteArray) : Option Bool :=
  Option.bind (labels_named_c a0 64 false) fun (y1 : Bool) =>
  some y1
theorem labels_Name_ev (a0 : ByteArray) : OLe (labels_Name_c a0) (labels_Name a0) := by
  unfold labels_Name_c labels_Name
  exact (OLe.bind (labels_named_ev _ _ _) (fun _ => (OLe.refl _)))
noncomputable def labels_reader_fail_c (a0 : S89) (a1 : Int) : Option S89 :=
  Option.bind (bif (decide (a0.f2 < 0)) then
    (some a1)
    else
    (some a0.f2)) fun (j1 : Int) =>
  some (⟨a0.f0, a0.f1, j1⟩ : S89)
theorem labels_reader_fail_ev (a0 : S89) (a1 : Int) : OLe (labels_reader_fail_c a0 a1) (labels_reader_fail a0 a1) := by
  unfold labels_reader_fail_c labels_reader_fail
  exact (OLe.bind (OLe.cond (OLe.refl _) (OLe.refl _)) (fun _ => (OLe.refl _)))
noncomputable def labels_reader_name_l22_c (a1 : Bool) (y2 : S89) : Int → Option ((Int) ⊕ (Int)) := fun s13 =>
  Option.bind (bif (decide (s13 < (y2.f0.size : Int))) then
    (Option.bind (bx y2.f0 s13) fun (c30 : Int) =>
      bif (labels_letter c30) then
      (some true)
      else
      (Option.bind (bx y2.f0 s13) fun (c33 : Int) =>
        bif (labels_digit c33) then
        (some true)
        else
        (bif a1 then
          (Option.bind (bx y2.f0 s13) fun (c37 : Int) =>
            some (c37 == 58))
          else
          (some false))))
    else
    (some false)) fun (j24 : Bool) =>
  bif j24 then
  (some (Sum.inl (IntKind.wrap .i64 (s13 + 1))))
  else
  (some (Sum.inr s13))
theorem labels_reader_name_l22_ev (a1 : Bool) (y2 : S89) (s13 : Int) : OLe (labels_reader_name_l22_c a1 y2 s13) (labels_reader_name_l22 a1 y2 s13) := by
  unfold labels_reader_name_l22_c labels_reader_name_l22
  exact (OLe.bind (OLe.cond (OLe.bind (OLe.refl _) (fun _ => (OLe.cond (OLe.refl _) (OLe.bind (OLe.refl _) (fun _ => (OLe.cond (OLe.refl _) (OLe.cond (OLe.bind (OLe.refl _) (fun _ => (OLe.refl _))) (OLe.refl _)))))))) (OLe.refl _)) (fun _ => (OLe.cond (OLe.refl _) (OLe.refl _))))
noncomputable def labels_reader_name_c (a0 : S89) (a1 : Bool) : Option (ByteArray × S89) :=
  bif (decide (a0.f2 ≥ 0)) then
  (some ((⟨#[]⟩ : ByteArray), a0))
  else
  (Option.bind (labels_reader_blanks_c a0) fun (y2 : S89) =>
    Option.bind (loopF 1000000 (labels_reader_name_l22_c a1 y2) y2.f1) fun (r11 : Int) =>
    Option.bind (sx y2.f0 y2.f1 r11) fun (s41 : ByteArray) =>
    Option.bind (bif a1 then
      (Option.bind (labels_Metric_c s41) fun (y48 : Bool) =>
        bif (!y48) then
        (some true)
        else
        (bif (!a1) then
          (Option.bind (labels_Name_c s41) fun (y52 : Bool) =>
            some (!y52))
          else
          (some false)))
      else
      (bif (!a1) then
        (Option.bind (labels_Name_c s41) fun (y55 : Bool) =>
          some (!y55))
        else
        (some false))) fun (j42 : Bool) =>
    Option.bind (bif j42 then
      (Option.bind (bif (s41.toList == (⟨#[]⟩ : ByteArray).toList) then
          (Option.bind (labels_reader_fail_c (⟨y2.f0, r11, y2.f2⟩ : S89) r11) fun (y69 : S89) =>
            some (y69.f0, y69.f1, y69.f2))
          else
          (some (y2.f0, r11, y2.f2))) fun (j63 : ByteArray × Int × Int) =>
        Option.bind (labels_reader_fail_c (⟨j63.1, j63.2.1, j63.2.2⟩ : S89) y2.f1) fun (y74 : S89) =>
        some (y74.f0, y74.f1, y74.f2))
      else
      (some (y2.f0, r11, y2.f2))) fun (j57 : ByteArray × Int × Int) =>
    some (s41, (⟨j57.1, j57.2.1, j57.2.2⟩ : S89)))
theorem labels_reader_name_ev (a0 : S89) (a1 : Bool) : OLe (labels_reader_name_c a0 a1) (labels_reader_name a0 a1) := by
  unfold labels_reader_name_c labels_reader_name
  exact (OLe.cond (OLe.refl _) (OLe.bind (labels_reader_blanks_ev _) (fun _ => (OLe.bind (OLe.loop (fun _ => labels_reader_name_l22_ev _ _ _)) (fun _ => (OLe.bind (OLe.refl _) (fun _ => (OLe.bind (OLe.cond (OLe.bind (labels_Metric_ev _) (fun _ => (OLe.cond (OLe.refl _) (OLe.cond (OLe.bind (labels_Name_ev _) (fun _ => (OLe.refl _))) (OLe.refl _))))) (OLe.cond (OLe.bind (labels_Name_ev _) (fun _ => (OLe.refl _))) (OLe.refl _))) (fun _ => (OLe.bind (OLe.cond (OLe.bind (OLe.cond (OLe.bind (labels_reader_fail_ev _ _) (fun _ => (OLe.refl _))) (OLe.refl _)) (fun _ => (OLe.bind (labels_reader_fail_ev _ _) (fun _ => (OLe.refl _))))) (OLe.refl _)) (fun _ => (OLe.refl _))))))))))))
noncomputable def labels_reader_next_c (a0 : S89) (a1 : Int) : Option (Bool × S89) :=
  bif (decide (a0.f2 ≥ 0)) then
  (some (false, a0))
  else
  (Option.bind (labels_reader_blanks_c a0) fun (y2 : S89) =>
    Option.bind (bif (decide (y2.f1 ≥ (y2.f0.size : Int))) then
      (some true)
      else
      (Option.bind (bx y2.f0 y2.f1) fun (c13 : Int) =>
        some (c13 != a1))) fun (j7 : Bool) =>
    bif j7 then
    (some (false, y2))
    else
    (some (true, (⟨y2.f0, (IntKind.wrap .i64 (y2.f1 + 1)), y2.f2⟩ : S89))))
theorem labels_reader_next_ev (a0 : S89) (a1 : Int) : OLe (labels_reader_next_c a0 a1) (labels_reader_next a0 a1) := by
  unfold labels_reader_next_c labels_reader_next
  exact (OLe.cond (OLe.refl _) (OLe.bind (labels_reader_blanks_ev _) (fun _ => (OLe.bind (OLe.cond (OLe.refl _) (OLe.bind (OLe.refl _) (fun _ => (OLe.refl _)))) (fun _ => (OLe.cond (OLe.refl _) (OLe.refl _)))))))
noncomputable def labels_reader_want_c (a0 : S89) (a1 : Int) : Option S89 :=
  Option.bind (labels_reader_next_c a0 a1) fun (y1 : Bool × S89) =>
  Option.bind (bif (!y1.1) then
    (Option.bind (labels_reader_fail_c y1.2 y1.2.f1) fun (y12 : S89) =>
      some (y12.f0, y12.f1, y12.f2))
    else
    (some (y1.2.f0, y1.2.f1, y1.2.f2))) fun (j6 : ByteArray × Int × Int) =>
  some (⟨j6.1, j6.2.1, j6.2.2⟩ : S89)
theorem labels_reader_want_ev (a0 : S89) (a1 : Int) : OLe (labels_reader_want_c a0 a1) (labels_reader_want a0 a1) := by
  unfold labels_reader_want_c labels_reader_want
  exact (OLe.bind (labels_reader_next_ev _ _) (fun _ => (OLe.bind (OLe.cond (OLe.bind (labels_reader_fail_ev _ _) (fun _ => (OLe.refl _))) (OLe.refl _)) (fun _ => (OLe.refl _)))))
noncomputable def strings_Builder_WriteByte_c (a0 : S127) (a1 : Int) : Option (Unit × S127) :=
  Option.bind (app ((strings_Builder_copyCheck (⟨a0.f1⟩ : S127)).f1) [a1]) fun (zs14 : List Int) =>
  some ((), (⟨zs14⟩ : S127))
theorem strings_Builder_WriteByte_ev (a0 : S127) (a1 : Int) : OLe (strings_Builder_WriteByte_c a0 a1) (strings_Builder_WriteByte a0 a1) := by
  unfold strings_Builder_WriteByte_c strings_Builder_WriteByte
  exact (OLe.bind (OLe.refl _) (fun _ => (OLe.refl _)))
noncomputable def labels_reader_value_l35_c : (ByteArray × Int × Int × Unit × (List Int)) → Option ((ByteArray × Int × Int × Unit × (List Int)) ⊕ ((ByteArray × Int × Int) ⊕ (ByteArray × S89))) := fun s19 =>
  bif ((decide (s19.2.2.1 < 0)) && (decide (s19.2.1 < (s19.1.size : Int)))) then
  (Option.bind (bx s19.1 s19.2.1) fun (c44 : Int) =>
    bif (c44 == 34) then
    (Option.bind (strings_Builder_String (⟨s19.2.2.2.2⟩ : S127)) fun (y47 : ByteArray) =>
      some (Sum.inr (Sum.inr (y47, (⟨s19.1, (IntKind.wrap .i64 (s19.2.1 + 1)), s19.2.2.1⟩ : S89)))))
    else
    (Option.bind (bif (c44 != 92) then
        (Option.bind (strings_Builder_WriteByte_c (⟨s19.2.2.2.2⟩ : S127) c44) fun (y64 : Unit × S127) =>
          some ((), y64.2.f1, s19.1, (IntKind.wrap .i64 (s19.2.1 + 1)), s19.2.2.1))
        else
        (Option.bind (bif (decide ((IntKind.wrap .i64 (s19.2.1 + 1)) ≥ (s19.1.size : Int))) then
            (Option.bind (labels_reader_fail_c (⟨s19.1, (IntKind.wrap .i64 (s19.2.1 + 1)), s19.2.2.1⟩ : S89) (IntKind.wrap .i64 (s19.2.1 + 1))) fun (y87 : S89) =>
              some ((), s19.2.2.2.2, y87.f0, y87.f1, y87.f2))
            else
            (Option.bind (bx s19.1 (IntKind.wrap .i64 (s19.2.1 + 1))) fun (c92 : Int) =>
              Option.bind (bif (c92 == 110) then
                (Option.bind (strings_Builder_WriteByte_c (⟨s19.2.2.2.2⟩ : S127) 10) fun (y106 : Unit × S127) =>
                  some ((), y106.2.f1, s19.1, (IntKind.wrap .i64 (s19.2.1 + 1)), s19.2.2.1))
                else
                (Option.bind (bif ((c92 == 92) || (c92 == 34)) then
                    (Option.bind (strings_Builder_WriteByte_c (⟨s19.2.2.2.2⟩ : S127) c92) fun (y133 : Unit × S127) =>
                      some ((), y133.2.f1, s19.1, (IntKind.wrap .i64 (s19.2.1 + 1)), s19.2.2.1))
                    else
                    (Option.bind (labels_reader_fail_c (⟨s19.1, (IntKind.wrap .i64 (s19.2.1 + 1)), s19.2.2.1⟩ : S89) (IntKind.wrap .i64 ((IntKind.wrap .i64 (s19.2.1 + 1)) - 1))) fun (y144 : S89) =>
                      some ((), s19.2.2.2.2, y144.f0, y144.f1, y144.f2))) fun (j121 : Unit × (List Int) × ByteArray × Int × Int) =>
                  some ((), j121.2.1, j121.2.2.1, j121.2.2.2.1, j121.2.2.2.2))) fun (j94 : Unit × (List Int) × ByteArray × Int × Int) =>
              some ((), j94.2.1, j94.2.2.1, (IntKind.wrap .i64 (j94.2.2.2.1 + 1)), j94.2.2.2.2))) fun (j75 : Unit × (List Int) × ByteArray × Int × Int) =>
          some ((), j75.2.1, j75.2.2.1, j75.2.2.2.1, j75.2.2.2.2))) fun (j52 : Unit × (List Int) × ByteArray × Int × Int) =>
      some (Sum.inl (j52.2.2.1, j52.2.2.2.1, j52.2.2.2.2, (), j52.2.1))))
  else
  (some (Sum.inr (Sum.inl (s19.1, s19.2.1, s19.2.2.1))))
theorem labels_reader_value_l35_ev  (s19 : ByteArray × Int × Int × Unit × (List Int)) : OLe (labels_reader_value_l35_c  s19) (labels_reader_value_l35  s19) := by
  unfold labels_reader_value_l35_c labels_reader_value_l35
  exact (OLe.cond (OLe.bind (OLe.refl _) (fun _ => (OLe.cond (OLe.bind (OLe.refl _) (fun _ => (OLe.refl _))) (OLe.bind (OLe.cond (OLe.bind (strings_Builder_WriteByte_ev _ _) (fun _ => (OLe.refl _))) (OLe.bind (OLe.cond (OLe.bind (labels_reader_fail_ev _ _) (fun _ => (OLe.refl _))) (OLe.bind (OLe.refl _) (fun _ => (OLe.bind (OLe.cond (OLe.bind (strings_Builder_WriteByte_ev _ _) (fun _ => (OLe.refl _))) (OLe.bind (OLe.cond (OLe.bind (strings_Builder_WriteByte_ev _ _) (fun _ => (OLe.refl _))) (OLe.bind (labels_reader_fail_ev _ _) (fun _ => (OLe.refl _)))) (fun _ => (OLe.refl _)))) (fun _ => (OLe.refl _)))))) (fun _ => (OLe.refl _)))) (fun _ => (OLe.refl _)))))) (OLe.refl _))
noncomputable def labels_reader_value_c (a0 : S89) : Option (ByteArray × S89) :=
  Option.bind (labels_reader_want_c a0 34) fun (y1 : S89) =>
  Option.bind (loopF 1000000 labels_reader_value_l35_c (y1.f0, y1.f1, y1.f2, (), [])) fun (r17 : (ByteArray × Int × Int) ⊕ (ByteArray × S89)) =>
  match r17 with
  | Sum.inl r31 => Option.bind (labels_reader_fail_c (⟨r31.1, r31.2.1, r31.2.2⟩ : S89) (r31.1.size : Int)) fun (y149 : S89) =>
    some ((⟨#[]⟩ : ByteArray), y149)
  | Sum.inr v154 => some v154
theorem labels_reader_value_ev (a0 : S89) : OLe (labels_reader_value_c a0) (labels_reader_value a0) := by
  unfold labels_reader_value_c labels_reader_value
  exact (OLe.bind (labels_reader_want_ev _ _) (fun _ => (OLe.bind (OLe.loop (fun _ => labels_reader_value_l35_ev  _)) (fun j => by cases j with | inl a => exact (OLe.bind (labels_reader_fail_ev _ _) (fun _ => (OLe.refl _))) | inr b => exact (OLe.refl _)))))
noncomputable def labels_reader_braces_l29_c : (ByteArray × Int × Int × (List S49)) → Option ((ByteArray × Int × Int × (List S49)) ⊕ (((List S49) × ByteArray × Int × Int) ⊕ ((List S49) × S89))) := fun s11 =>
  Option.bind (labels_reader_next_c (⟨s11.1, s11.2.1, s11.2.2.1⟩ : S89) 125) fun (y31 : Bool × S89) =>
  bif (!y31.1) then
  (Option.bind (labels_reader_name_c y31.2 false) fun (y37 : ByteArray × S89) =>
    Option.bind (labels_reader_want_c y37.2 61) fun (y43 : S89) =>
    Option.bind (labels_reader_value_c y43) fun (y48 : ByteArray × S89) =>
    bif (decide (y48.2.f2 ≥ 0)) then
    (some (Sum.inr (Sum.inr ([], y48.2))))
    else
    (Option.bind (app s11.2.2.2 [(⟨y37.1, y48.1⟩ : S49)]) fun (zs58 : List S49) =>
      Option.bind (labels_reader_next_c y48.2 44) fun (y64 : Bool × S89) =>
      bif (!y64.1) then
      (Option.bind (labels_reader_want_c y64.2 125) fun (y70 : S89) =>
        some (Sum.inr (Sum.inr (zs58, y70))))
      else
      (some (Sum.inl (y64.2.f0, y64.2.f1, y64.2.f2, zs58)))))
  else
  (some (Sum.inr (Sum.inl (s11.2.2.2, y31.2.f0, y31.2.f1, y31.2.f2))))
theorem labels_reader_braces_l29_ev  (s11 : ByteArray × Int × Int × (List S49)) : OLe (labels_reader_braces_l29_c  s11) (labels_reader_braces_l29  s11) := by
  unfold labels_reader_braces_l29_c labels_reader_braces_l29
  exact (OLe.bind (labels_reader_next_ev _ _) (fun _ => (OLe.cond (OLe.bind (labels_reader_name_ev _ _) (fun _ => (OLe.bind (labels_reader_want_ev _ _) (fun _ => (OLe.bind (labels_reader_value_ev _) (fun _ => (OLe.cond (OLe.refl _) (OLe.bind (OLe.refl _) (fun _ => (OLe.bind (labels_reader_next_ev _ _) (fun _ => (OLe.cond (OLe.bind (labels_reader_want_ev _ _) (fun _ => (OLe.refl _))) (OLe.refl _))))))))))))) (OLe.refl _))))
noncomputable def labels_reader_braces_c (a0 : S89) : Option ((List S49) × S89) :=
  Option.bind (loopF 1000000 labels_reader_braces_l29_c (a0.f0, a0.f1, a0.f2, [])) fun (r9 : ((List S49) × ByteArray × Int × Int) ⊕ ((List S49) × S89)) =>
  match r9 with
  | Sum.inl r21 => some (r21.1, (⟨r21.2.1, r21.2.2.1, r21.2.2.2⟩ : S89))
  | Sum.inr v75 => some v75
theorem labels_reader_braces_ev (a0 : S89) : OLe (labels_reader_braces_c a0) (labels_reader_braces a0) := by
  unfold labels_reader_braces_c labels_reader_braces
  exact (OLe.bind (OLe.loop (fun _ => labels_reader_braces_l29_ev  _)) (fun j => by cases j with | inl a => exact (OLe.refl _) | inr b => exact (OLe.refl _)))
noncomputable def labels_own_c (a0 : List S49) : Option (List S49) :=
  Option.bind (mkrow ((⟨(⟨#[]⟩ : ByteArray), (⟨#[]⟩ : ByteArray)⟩ : S49) : S49) (a0.length : Int) (a0.length : Int)) fun (xs1 : List S49) =>
  some (lcopy xs1 a0)
theorem labels_own_ev (a0 : List S49) : OLe (labels_own_c a0) (labels_own a0) := by
  unfold labels_own_c labels_own
  exact (OLe.bind (OLe.refl _) (fun _ => (OLe.refl _)))
noncomputable def slices_insertionSortCmpFunc_l52_c (a1 : Int) : ((List S49) × Int) → Option (((List S49) × Int) ⊕ ((List S49))) := fun s37 =>
  Option.bind (bif (decide (s37.2 > a1)) then
    (Option.bind (ix s37.1 s37.2) fun (x60 : S49) =>
      Option.bind (ix s37.1 (IntKind.wrap .i64 (s37.2 - 1))) fun (x69 : S49) =>
      some (decide ((labels_sorted_1 x60 x69) < 0)))
    else
    (some false)) fun (j54 : Bool) =>
  bif j54 then
  (Option.bind (ix s37.1 (IntKind.wrap .i64 (s37.2 - 1))) fun (x79 : S49) =>
    Option.bind (ix s37.1 s37.2) fun (x88 : S49) =>
    Option.bind (ix s37.1 s37.2) fun (x97 : S49) =>
    Option.bind (ix (lset s37.1 s37.2 x79) (IntKind.wrap .i64 (s37.2 - 1))) fun (x109 : S49) =>
    some (Sum.inl ((lset (lset s37.1 s37.2 x79) (IntKind.wrap .i64 (s37.2 - 1)) x88), (IntKind.wrap .i64 (s37.2 - 1)))))
  else
  (some (Sum.inr s37.1))
theorem slices_insertionSortCmpFunc_l52_ev (a1 : Int) (s37 : (List S49) × Int) : OLe (slices_insertionSortCmpFunc_l52_c a1 s37) (slices_insertionSortCmpFunc_l52 a1 s37) := by
  unfold slices_insertionSortCmpFunc_l52_c slices_insertionSortCmpFunc_l52
  exact (OLe.bind (OLe.cond (OLe.bind (OLe.refl _) (fun _ => (OLe.bind (OLe.refl _) (fun _ => (OLe.refl _))))) (OLe.refl _)) (fun _ => (OLe.cond (OLe.bind (OLe.refl _) (fun _ => (OLe.bind (OLe.refl _) (fun _ => (OLe.bind (OLe.refl _) (fun _ => (OLe.bind (OLe.refl _) (fun _ => (OLe.refl _))))))))) (OLe.refl _))))
noncomputable def slices_insertionSortCmpFunc_l25_c (a1 : Int) (a2 : Int) : ((List S49) × Int) → Option (((List S49) × Int) ⊕ ((List S49))) := fun s10 =>
  bif (decide (s10.2 < a2)) then
  (Option.bind (loopF 1000000 (slices_insertionSortCmpFunc_l52_c a1) (s10.1, s10.2)) fun (r35 : (List S49)) =>
    some (Sum.inl (r35, (IntKind.wrap .i64 (s10.2 + 1)))))
  else
  (some (Sum.inr s10.1))
theorem slices_insertionSortCmpFunc_l25_ev (a1 : Int) (a2 : Int) (s10 : (List S49) × Int) : OLe (slices_insertionSortCmpFunc_l25_c a1 a2 s10) (slices_insertionSortCmpFunc_l25 a1 a2 s10) := by
  unfold slices_insertionSortCmpFunc_l25_c slices_insertionSortCmpFunc_l25
  exact (OLe.cond (OLe.bind (OLe.loop (fun _ => slices_insertionSortCmpFunc_l52_ev _ _)) (fun _ => (OLe.refl _))) (OLe.refl _))
noncomputable def slices_insertionSortCmpFunc_c (a0 : List S49) (a1 : Int) (a2 : Int) : Option (List S49) :=
  Option.bind (loopF 1000000 (slices_insertionSortCmpFunc_l25_c a1 a2) (a0, (IntKind.wrap .i64 (a1 + 1)))) fun (r8 : (List S49)) =>
  some r8
theorem slices_insertionSortCmpFunc_ev (a0 : List S49) (a1 : Int) (a2 : Int) : OLe (slices_insertionSortCmpFunc_c a0 a1 a2) (slices_insertionSortCmpFunc a0 a1 a2) := by
  unfold slices_insertionSortCmpFunc_c slices_insertionSortCmpFunc
  exact (OLe.bind (OLe.loop (fun _ => slices_insertionSortCmpFunc_l25_ev _ _ _)) (fun _ => (OLe.refl _)))
noncomputable def slices_symMergeCmpFunc_c (a0 : List S49) (a1 : Int) (a2 : Int) (a3 : Int) : Option (List S49) := none
theorem slices_symMergeCmpFunc_ev (a0 : List S49) (a1 : Int) (a2 : Int) (a3 : Int) : OLe (slices_symMergeCmpFunc_c a0 a1 a2 a3) (slices_symMergeCmpFunc a0 a1 a2 a3) := by
  intro r h; cases h
noncomputable def slices_stableCmpFunc_l25_c (a1 : Int) : ((List S49) × Int × Int) → Option (((List S49) × Int × Int) ⊕ ((List S49) × Int)) := fun s10 =>
  bif (decide (s10.2.2 ≤ a1)) then
  (Option.bind (slices_insertionSortCmpFunc_c s10.1 s10.2.1 s10.2.2) fun (y28 : (List S49)) =>
    some (Sum.inl (y28, s10.2.2, (IntKind.wrap .i64 (s10.2.2 + 20)))))
  else
  (some (Sum.inr (s10.1, s10.2.1)))
theorem slices_stableCmpFunc_l25_ev (a1 : Int) (s10 : (List S49) × Int × Int) : OLe (slices_stableCmpFunc_l25_c a1 s10) (slices_stableCmpFunc_l25 a1 s10) := by
  unfold slices_stableCmpFunc_l25_c slices_stableCmpFunc_l25
  exact (OLe.cond (OLe.bind (slices_insertionSortCmpFunc_ev _ _ _) (fun _ => (OLe.refl _))) (OLe.refl _))
noncomputable def slices_stableCmpFunc_l95_c (a1 : Int) (s53 : (List S49) × Int) : ((List S49) × Int × Int) → Option (((List S49) × Int × Int) ⊕ ((List S49) × Int)) := fun s80 =>
  bif (decide (s80.2.2 ≤ a1)) then
  (Option.bind (slices_symMergeCmpFunc_c s80.1 s80.2.1 (IntKind.wrap .i64 (s80.2.1 + s53.2)) s80.2.2) fun (y98 : (List S49)) =>
    some (Sum.inl (y98, s80.2.2, (IntKind.wrap .i64 (s80.2.2 + (IntKind.wrap .i64 (2 * s53.2)))))))
  else
  (some (Sum.inr (s80.1, s80.2.1)))
theorem slices_stableCmpFunc_l95_ev (a1 : Int) (s53 : (List S49) × Int) (s80 : (List S49) × Int × Int) : OLe (slices_stableCmpFunc_l95_c a1 s53 s80) (slices_stableCmpFunc_l95 a1 s53 s80) := by
  unfold slices_stableCmpFunc_l95_c slices_stableCmpFunc_l95
  exact (OLe.cond (OLe.bind (slices_symMergeCmpFunc_ev _ _ _ _) (fun _ => (OLe.refl _))) (OLe.refl _))
noncomputable def slices_stableCmpFunc_l68_c (a1 : Int) : ((List S49) × Int) → Option (((List S49) × Int) ⊕ ((List S49))) := fun s53 =>
  bif (decide (s53.2 < a1)) then
  (Option.bind (loopF 1000000 (slices_stableCmpFunc_l95_c a1 s53) (s53.1, 0, (IntKind.wrap .i64 (2 * s53.2)))) fun (r78 : (List S49) × Int) =>
    Option.bind (bif (decide ((IntKind.wrap .i64 (r78.2 + s53.2)) < a1)) then
      (Option.bind (slices_symMergeCmpFunc_c r78.1 r78.2 (IntKind.wrap .i64 (r78.2 + s53.2)) a1) fun (y115 : (List S49)) =>
        some y115)
      else
      (some r78.1)) fun (j106 : (List S49)) =>
    some (Sum.inl (j106, (IntKind.wrap .i64 (s53.2 * 2)))))
  else
  (some (Sum.inr s53.1))
theorem slices_stableCmpFunc_l68_ev (a1 : Int) (s53 : (List S49) × Int) : OLe (slices_stableCmpFunc_l68_c a1 s53) (slices_stableCmpFunc_l68 a1 s53) := by
  unfold slices_stableCmpFunc_l68_c slices_stableCmpFunc_l68
  exact (OLe.cond (OLe.bind (OLe.loop (fun _ => slices_stableCmpFunc_l95_ev _ _ _)) (fun _ => (OLe.bind (OLe.cond (OLe.bind (slices_symMergeCmpFunc_ev _ _ _ _) (fun _ => (OLe.refl _))) (OLe.refl _)) (fun _ => (OLe.refl _))))) (OLe.refl _))
noncomputable def slices_stableCmpFunc_c (a0 : List S49) (a1 : Int) : Option (List S49) :=
  Option.bind (loopF 1000000 (slices_stableCmpFunc_l25_c a1) (a0, 0, 20)) fun (r8 : (List S49) × Int) =>
  Option.bind (slices_insertionSortCmpFunc_c r8.1 r8.2 a1) fun (y36 : (List S49)) =>
  Option.bind (loopF 1000000 (slices_stableCmpFunc_l68_c a1) (y36, 20)) fun (r51 : (List S49)) =>
  some r51
theorem slices_stableCmpFunc_ev (a0 : List S49) (a1 : Int) : OLe (slices_stableCmpFunc_c a0 a1) (slices_stableCmpFunc a0 a1) := by
  unfold slices_stableCmpFunc_c slices_stableCmpFunc
  exact (OLe.bind (OLe.loop (fun _ => slices_stableCmpFunc_l25_ev _ _)) (fun _ => (OLe.bind (slices_insertionSortCmpFunc_ev _ _ _) (fun _ => (OLe.bind (OLe.loop (fun _ => slices_stableCmpFunc_l68_ev _ _)) (fun _ => (OLe.refl _)))))))
noncomputable def slices_SortStableFunc_c (a0 : List S49) : Option (List S49) :=
  Option.bind (slices_stableCmpFunc_c a0 (a0.length : Int)) fun (y1 : (List S49)) =>
  some y1
theorem slices_SortStableFunc_ev (a0 : List S49) : OLe (slices_SortStableFunc_c a0) (slices_SortStableFunc a0) := by
  unfold slices_SortStableFunc_c slices_SortStableFunc
  exact (OLe.bind (slices_stableCmpFunc_ev _ _) (fun _ => (OLe.refl _)))
noncomputable def labels_sorted_l45_c (y10 : (List S49)) : ((List S49) × Bool × Int) → Option (((List S49) × Bool × Int) ⊕ ((List S49) × Bool)) := fun s28 =>
  bif (decide (s28.2.2 < (y10.length : Int))) then
  (Option.bind (ix y10 s28.2.2) fun (x48 : S49) =>
    Option.bind (bif s28.2.1 then
      (some true)
      else
      (bif (decide (s28.2.2 > 0)) then
        (Option.bind (ix y10 (IntKind.wrap .i64 (s28.2.2 - 1))) fun (x65 : S49) =>
          some (x65.f0.toList == x48.f0.toList))
        else
        (some false))) fun (j58 : Bool) =>
    Option.bind (bif (!(x48.f1.toList == (⟨#[]⟩ : ByteArray).toList)) then
      (Option.bind (app s28.1 [x48]) fun (zs88 : List S49) =>
        some zs88)
      else
      (some s28.1)) fun (j74 : (List S49)) =>
    some (Sum.inl (j74, j58, (IntKind.wrap .i64 (s28.2.2 + 1)))))
  else
  (some (Sum.inr (s28.1, s28.2.1)))
theorem labels_sorted_l45_ev (y10 : (List S49)) (s28 : (List S49) × Bool × Int) : OLe (labels_sorted_l45_c y10 s28) (labels_sorted_l45 y10 s28) := by
  unfold labels_sorted_l45_c labels_sorted_l45
  exact (OLe.cond (OLe.bind (OLe.refl _) (fun _ => (OLe.bind (OLe.cond (OLe.refl _) (OLe.cond (OLe.bind (OLe.refl _) (fun _ => (OLe.refl _))) (OLe.refl _))) (fun _ => (OLe.bind (OLe.cond (OLe.bind (OLe.refl _) (fun _ => (OLe.refl _))) (OLe.refl _)) (fun _ => (OLe.refl _))))))) (OLe.refl _))
noncomputable def labels_sorted_c (a0 : List S49) : Option ((List S49) × Bool) :=
  Option.bind (labels_own_c a0) fun (y1 : (List S49)) =>
  Option.bind (slices_SortStableFunc_c y1) fun (y10 : (List S49)) =>
  Option.bind (loopF 1000000 (labels_sorted_l45_c y10) ([], false, 0)) fun (r26 : (List S49) × Bool) =>
  some (r26.1, r26.2)
theorem labels_sorted_ev (a0 : List S49) : OLe (labels_sorted_c a0) (labels_sorted a0) := by
  unfold labels_sorted_c labels_sorted
  exact (OLe.bind (labels_own_ev _) (fun _ => (OLe.bind (slices_SortStableFunc_ev _) (fun _ => (OLe.bind (OLe.loop (fun _ => labels_sorted_l45_ev _ _)) (fun _ => (OLe.refl _)))))))
noncomputable def utf8_ValidString_c (a0 : ByteArray) : Option Bool := utf8_ValidString a0
theorem utf8_ValidString_ev (a0 : ByteArray) : OLe (utf8_ValidString_c a0) (utf8_ValidString a0) := OLe.refl _
noncomputable def labels_value_c (a0 : ByteArray) : Option Int :=
  bif (a0.toList == (⟨#[]⟩ : ByteArray).toList) then
  (some 41)
  else
  (bif (decide ((a0.size : Int) > 256)) then
    (some 4)
    else
    (Option.bind (utf8_ValidString_c a0) fun (y3 : Bool) =>
      bif (!y3) then
      (some 12)
      else
      (some 0)))
theorem labels_value_ev (a0 : ByteArray) : OLe (labels_value_c a0) (labels_value a0) := by
  unfold labels_value_c labels_value
  exact (OLe.cond (OLe.refl _) (OLe.cond (OLe.refl _) (OLe.bind (utf8_ValidString_ev _) (fun _ => (OLe.cond (OLe.refl _) (OLe.refl _))))))
noncomputable def labels_Right_l18_c (a0 : List S49) : Int → Option ((Int) ⊕ ((Unit) ⊕ (Int × Int))) := fun s8 =>
  bif (decide (s8 < (a0.length : Int))) then
  (Option.bind (ix a0 s8) fun (x21 : S49) =>
    Option.bind (labels_Name_c x21.f0) fun (y30 : Bool) =>
    bif (!y30) then
    (some (Sum.inr (Sum.inr (40, s8))))
    else
    (Option.bind (labels_value_c x21.f1) fun (y33 : Int) =>
      bif (y33 != 0) then
      (some (Sum.inr (Sum.inr (y33, s8))))
      else
      (Option.bind (bif (decide (s8 > 0)) then
          (Option.bind (ix a0 (IntKind.wrap .i64 (s8 - 1))) fun (x42 : S49) =>
            some ((Op.bytesLess x21.f0.toList x42.f0.toList) || (x21.f0.toList == x42.f0.toList)))
          else
          (some false)) fun (j36 : Bool) =>
        bif j36 then
        (some (Sum.inr (Sum.inr (3, s8))))
        else
        (some (Sum.inl (IntKind.wrap .i64 (s8 + 1)))))))
  else
  (some (Sum.inr (Sum.inl ())))
theorem labels_Right_l18_ev (a0 : List S49) (s8 : Int) : OLe (labels_Right_l18_c a0 s8) (labels_Right_l18 a0 s8) := by
  unfold labels_Right_l18_c labels_Right_l18
  exact (OLe.cond (OLe.bind (OLe.refl _) (fun _ => (OLe.bind (labels_Name_ev _) (fun _ => (OLe.cond (OLe.refl _) (OLe.bind (labels_value_ev _) (fun _ => (OLe.cond (OLe.refl _) (OLe.bind (OLe.cond (OLe.bind (OLe.refl _) (fun _ => (OLe.refl _))) (OLe.refl _)) (fun _ => (OLe.cond (OLe.refl _) (OLe.refl _)))))))))))) (OLe.refl _))
noncomputable def labels_Right_c (a0 : List S49) : Option (Int × Int) :=
  bif (decide ((a0.length : Int) > 16)) then
  (some (8, 0))
  else
  (Option.bind (loopF 1000000 (labels_Right_l18_c a0) 0) fun (r6 : (Unit) ⊕ (Int × Int)) =>
    match r6 with
    | Sum.inl r14 => some (0, 0)
    | Sum.inr v51 => some v51)
theorem labels_Right_ev (a0 : List S49) : OLe (labels_Right_c a0) (labels_Right a0) := by
  unfold labels_Right_c labels_Right
  exact (OLe.cond (OLe.refl _) (OLe.bind (OLe.loop (fun _ => labels_Right_l18_ev _ _)) (fun j => by cases j with | inl a => exact (OLe.refl _) | inr b => exact (OLe.refl _))))
noncomputable def labels_Parse_c (a0 : ByteArray) : Option ((List S49) × Int × Int) :=
  bif (decide ((a0.size : Int) > 65536)) then
  (some ([], 4, 0))
  else
  (Option.bind (labels_reader_blanks_c (⟨a0, 0, (-1)⟩ : S89)) fun (y3 : S89) =>
    Option.bind (bif (decide (y3.f1 < (a0.size : Int))) then
      (Option.bind (bx a0 y3.f1) fun (c14 : Int) =>
        some (c14 == 123))
      else
      (some false)) fun (j8 : Bool) =>
    Option.bind (bif (!j8) then
      (Option.bind (labels_reader_name_c y3 true) fun (y26 : ByteArray × S89) =>
        Option.bind (app ([] : List S49) [(⟨(⟨#[95, 95, 110, 97, 109, 101, 95, 95]⟩ : ByteArray), y26.1⟩ : S49)]) fun (zs35 : List S49) =>
        Option.bind (labels_reader_blanks_c y26.2) fun (y41 : S89) =>
        some (zs35, y41.f0, y41.f1, y41.f2))
      else
      (some ([], y3.f0, y3.f1, y3.f2))) fun (j16 : (List S49) × ByteArray × Int × Int) =>
    Option.bind (labels_reader_next_c (⟨j16.2.1, j16.2.2.1, j16.2.2.2⟩ : S89) 123) fun (y46 : Bool × S89) =>
    Option.bind (bif y46.1 then
      (Option.bind (labels_reader_braces_c y46.2) fun (y61 : (List S49) × S89) =>
        Option.bind (app j16.1 y61.1) fun (zs70 : List S49) =>
        some (zs70, y61.2.f0, y61.2.f1, y61.2.f2))
      else
      (some (j16.1, y46.2.f0, y46.2.f1, y46.2.f2))) fun (j51 : (List S49) × ByteArray × Int × Int) =>
    Option.bind (labels_reader_blanks_c (⟨j51.2.1, j51.2.2.1, j51.2.2.2⟩ : S89)) fun (y76 : S89) =>
    Option.bind (bif ((decide (y76.f2 < 0)) && (decide (y76.f1 < (a0.size : Int)))) then
      (Option.bind (labels_reader_fail_c y76 y76.f1) fun (y93 : S89) =>
        some (y93.f0, y93.f1, y93.f2))
      else
      (some (y76.f0, y76.f1, y76.f2))) fun (j87 : ByteArray × Int × Int) =>
    bif (decide (j87.2.2 ≥ 0)) then
    (some ([], 3, j87.2.2))
    else
    (Option.bind (labels_sorted_c j51.1) fun (y103 : (List S49) × Bool) =>
      bif y103.2 then
      (some ([], 6, 0))
      else
      (Option.bind (labels_Right_c y103.1) fun (y113 : Int × Int) =>
        bif (y113.1 != 0) then
        (some ([], y113.1, y113.2))
        else
        (some (y103.1, 0, 0)))))
theorem labels_Parse_ev (a0 : ByteArray) : OLe (labels_Parse_c a0) (labels_Parse a0) := by
  unfold labels_Parse_c labels_Parse
  exact (OLe.cond (OLe.refl _) (OLe.bind (labels_reader_blanks_ev _) (fun _ => (OLe.bind (OLe.cond (OLe.bind (OLe.refl _) (fun _ => (OLe.refl _))) (OLe.refl _)) (fun _ => (OLe.bind (OLe.cond (OLe.bind (labels_reader_name_ev _ _) (fun _ => (OLe.bind (OLe.refl _) (fun _ => (OLe.bind (labels_reader_blanks_ev _) (fun _ => (OLe.refl _))))))) (OLe.refl _)) (fun _ => (OLe.bind (labels_reader_next_ev _ _) (fun _ => (OLe.bind (OLe.cond (OLe.bind (labels_reader_braces_ev _) (fun _ => (OLe.bind (OLe.refl _) (fun _ => (OLe.refl _))))) (OLe.refl _)) (fun _ => (OLe.bind (labels_reader_blanks_ev _) (fun _ => (OLe.bind (OLe.cond (OLe.bind (labels_reader_fail_ev _ _) (fun _ => (OLe.refl _))) (OLe.refl _)) (fun _ => (OLe.cond (OLe.refl _) (OLe.bind (labels_sorted_ev _) (fun _ => (OLe.cond (OLe.refl _) (OLe.bind (labels_Right_ev _) (fun _ => (OLe.cond (OLe.refl _) (OLe.refl _)))))))))))))))))))))))
noncomputable def labels_right_c (a0 : List S49) : Option Int :=
  Option.bind (labels_Right_c a0) fun (y1 : Int × Int) =>
  some y1.1
theorem labels_right_ev (a0 : List S49) : OLe (labels_right_c a0) (labels_right a0) := by
  unfold labels_right_c labels_right
  exact (OLe.bind (labels_Right_ev _) (fun _ => (OLe.refl _)))
noncomputable def labels_Get_l17_c (a0 : List S49) (a1 : ByteArray) : Int → Option ((Int) ⊕ ((Unit) ⊕ (ByteArray))) := fun s7 =>
  bif (decide (s7 < (a0.length : Int))) then
  (Option.bind (ix a0 s7) fun (x20 : S49) =>
    bif (x20.f0.toList == a1.toList) then
    (some (Sum.inr (Sum.inr x20.f1)))
    else
    (some (Sum.inl (IntKind.wrap .i64 (s7 + 1)))))
  else
  (some (Sum.inr (Sum.inl ())))
theorem labels_Get_l17_ev (a0 : List S49) (a1 : ByteArray) (s7 : Int) : OLe (labels_Get_l17_c a0 a1 s7) (labels_Get_l17 a0 a1 s7) := by
  unfold labels_Get_l17_c labels_Get_l17
  exact (OLe.cond (OLe.bind (OLe.refl _) (fun _ => (OLe.cond (OLe.refl _) (OLe.refl _)))) (OLe.refl _))
noncomputable def labels_Get_c (a0 : List S49) (a1 : ByteArray) : Option ByteArray :=
  Option.bind (loopF 1000000 (labels_Get_l17_c a0 a1) 0) fun (r5 : (Unit) ⊕ (ByteArray)) =>
  match r5 with
  | Sum.inl r13 => some (⟨#[]⟩ : ByteArray)
  | Sum.inr v30 => some v30
theorem labels_Get_ev (a0 : List S49) (a1 : ByteArray) : OLe (labels_Get_c a0 a1) (labels_Get a0 a1) := by
  unfold labels_Get_c labels_Get
  exact (OLe.bind (OLe.loop (fun _ => labels_Get_l17_ev _ _ _)) (fun j => by cases j with | inl a => exact (OLe.refl _) | inr b => exact (OLe.refl _)))
noncomputable def slices_Index_l17_c (a0 : List ByteArray) (a1 : ByteArray) : Int → Option ((Int) ⊕ ((Unit) ⊕ (Int))) := fun s7 =>
  bif (decide (s7 < (a0.length : Int))) then
  (Option.bind (ix a0 s7) fun (x20 : ByteArray) =>
    bif (a1.toList == x20.toList) then
    (some (Sum.inr (Sum.inr s7)))
    else
    (some (Sum.inl (IntKind.wrap .i64 (s7 + 1)))))
  else
  (some (Sum.inr (Sum.inl ())))
theorem slices_Index_l17_ev (a0 : List ByteArray) (a1 : ByteArray) (s7 : Int) : OLe (slices_Index_l17_c a0 a1 s7) (slices_Index_l17 a0 a1 s7) := by
  unfold slices_Index_l17_c slices_Index_l17
  exact (OLe.cond (OLe.bind (OLe.refl _) (fun _ => (OLe.cond (OLe.refl _) (OLe.refl _)))) (OLe.refl _))
noncomputable def slices_Index_c (a0 : List ByteArray) (a1 : ByteArray) : Option Int :=
  Option.bind (loopF 1000000 (slices_Index_l17_c a0 a1) 0) fun (r5 : (Unit) ⊕ (Int)) =>
  match r5 with
  | Sum.inl r13 => some (-1)
  | Sum.inr v29 => some v29
theorem slices_Index_ev (a0 : List ByteArray) (a1 : ByteArray) : OLe (slices_Index_c a0 a1) (slices_Index a0 a1) := by
  unfold slices_Index_c slices_Index
  exact (OLe.bind (OLe.loop (fun _ => slices_Index_l17_ev _ _ _)) (fun j => by cases j with | inl a => exact (OLe.refl _) | inr b => exact (OLe.refl _)))
noncomputable def slices_Contains_c (a0 : List ByteArray) (a1 : ByteArray) : Option Bool :=
  Option.bind (slices_Index_c a0 a1) fun (y1 : Int) =>
  some (decide (y1 ≥ 0))
theorem slices_Contains_ev (a0 : List ByteArray) (a1 : ByteArray) : OLe (slices_Contains_c a0 a1) (slices_Contains a0 a1) := by
  unfold slices_Contains_c slices_Contains
  exact (OLe.bind (slices_Index_ev _ _) (fun _ => (OLe.refl _)))
noncomputable def labels_pick_l28_c (a0 : List S49) (a1 : Bool) (a2 : List ByteArray) : ((List S49) × Int) → Option (((List S49) × Int) ⊕ ((List S49))) := fun s11 =>
  bif (decide (s11.2 < (a0.length : Int))) then
  (Option.bind (ix a0 s11.2) fun (x31 : S49) =>
    Option.bind (slices_Contains_c a2 x31.f0) fun (y40 : Bool) =>
    Option.bind (bif (y40 == a1) then
      (Option.bind (app s11.1 [x31]) fun (zs56 : List S49) =>
        some zs56)
      else
      (some s11.1)) fun (j42 : (List S49)) =>
    some (Sum.inl (j42, (IntKind.wrap .i64 (s11.2 + 1)))))
  else
  (some (Sum.inr s11.1))
theorem labels_pick_l28_ev (a0 : List S49) (a1 : Bool) (a2 : List ByteArray) (s11 : (List S49) × Int) : OLe (labels_pick_l28_c a0 a1 a2 s11) (labels_pick_l28 a0 a1 a2 s11) := by
  unfold labels_pick_l28_c labels_pick_l28
  exact (OLe.cond (OLe.bind (OLe.refl _) (fun _ => (OLe.bind (slices_Contains_ev _ _) (fun _ => (OLe.bind (OLe.cond (OLe.bind (OLe.refl _) (fun _ => (OLe.refl _))) (OLe.refl _)) (fun _ => (OLe.refl _))))))) (OLe.refl _))
noncomputable def labels_pick_c (a0 : List S49) (a1 : Bool) (a2 : List ByteArray) : Option (List S49) :=
  Option.bind (loopF 1000000 (labels_pick_l28_c a0 a1 a2) ([], 0)) fun (r9 : (List S49)) =>
  some r9
theorem labels_pick_ev (a0 : List S49) (a1 : Bool) (a2 : List ByteArray) : OLe (labels_pick_c a0 a1 a2) (labels_pick a0 a1 a2) := by
  unfold labels_pick_c labels_pick
  exact (OLe.bind (OLe.loop (fun _ => labels_pick_l28_ev _ _ _ _)) (fun _ => (OLe.refl _)))
noncomputable def labels_quoted_c (a0 : ByteArray) : Option ByteArray := labels_quoted a0
theorem labels_quoted_ev (a0 : ByteArray) : OLe (labels_quoted_c a0) (labels_quoted a0) := OLe.refl _
noncomputable def strings_Join_c (a0 : List ByteArray) (a1 : ByteArray) : Option ByteArray :=
  bif ((a0.length : Int) == 0) then
  (some (⟨#[]⟩ : ByteArray))
  else
  (bif ((a0.length : Int) == 1) then
    (Option.bind (ix a0 0) fun (x3 : ByteArray) =>
      some x3)
    else
    (none))
theorem strings_Join_ev (a0 : List ByteArray) (a1 : ByteArray) : OLe (strings_Join_c a0 a1) (strings_Join a0 a1) := by
  unfold strings_Join_c strings_Join
  exact (OLe.cond (OLe.refl _) (OLe.cond (OLe.bind (OLe.refl _) (fun _ => (OLe.refl _))) (OLe.refl _)))
noncomputable def labels_Print_l72_c (j8 : ByteArray × (List S49)) : ((List ByteArray) × Int) → Option (((List ByteArray) × Int) ⊕ ((List ByteArray))) := fun s55 =>
  bif (decide (s55.2 < (j8.2.length : Int))) then
  (Option.bind (ix j8.2 s55.2) fun (x75 : S49) =>
    Option.bind (sadd x75.f0 (⟨#[61]⟩ : ByteArray)) fun (s84 : ByteArray) =>
    Option.bind (labels_quoted_c x75.f1) fun (y86 : ByteArray) =>
    Option.bind (sadd s84 y86) fun (s88 : ByteArray) =>
    Option.bind (app s55.1 [s88]) fun (zs94 : List ByteArray) =>
    some (Sum.inl (zs94, (IntKind.wrap .i64 (s55.2 + 1)))))
  else
  (some (Sum.inr s55.1))
theorem labels_Print_l72_ev (j8 : ByteArray × (List S49)) (s55 : (List ByteArray) × Int) : OLe (labels_Print_l72_c j8 s55) (labels_Print_l72 j8 s55) := by
  unfold labels_Print_l72_c labels_Print_l72
  exact (OLe.cond (OLe.bind (OLe.refl _) (fun _ => (OLe.bind (OLe.refl _) (fun _ => (OLe.bind (labels_quoted_ev _) (fun _ => (OLe.bind (OLe.refl _) (fun _ => (OLe.bind (OLe.refl _) (fun _ => (OLe.refl _))))))))))) (OLe.refl _))
noncomputable def labels_Print_c (a0 : List S49) : Option (ByteArray × Int) :=
  Option.bind (labels_right_c a0) fun (y1 : Int) =>
  bif (y1 != 0) then
  (some ((⟨#[]⟩ : ByteArray), y1))
  else
  (Option.bind (labels_Get_c a0 (⟨#[95, 95, 110, 97, 109, 101, 95, 95]⟩ : ByteArray)) fun (y4 : ByteArray) =>
    Option.bind (labels_Metric_c y4) fun (y6 : Bool) =>
    Option.bind (bif y6 then
      (Option.bind (labels_pick_c a0 false [(⟨#[95, 95, 110, 97, 109, 101, 95, 95]⟩ : ByteArray)]) fun (y25 : (List S49)) =>
        some (y4, y25))
      else
      (some ((⟨#[]⟩ : ByteArray), a0))) fun (j8 : ByteArray × (List S49)) =>
    bif ((!(j8.1.toList == (⟨#[]⟩ : ByteArray).toList)) && ((j8.2.length : Int) == 0)) then
    (some (j8.1, 0))
    else
    (Option.bind (loopF 1000000 (labels_Print_l72_c j8) ([], 0)) fun (r53 : (List ByteArray)) =>
      Option.bind (sadd j8.1 (⟨#[123]⟩ : ByteArray)) fun (s100 : ByteArray) =>
      Option.bind (strings_Join_c r53 (⟨#[44]⟩ : ByteArray)) fun (y102 : ByteArray) =>
      Option.bind (sadd s100 y102) fun (s104 : ByteArray) =>
      Option.bind (sadd s104 (⟨#[125]⟩ : ByteArray)) fun (s106 : ByteArray) =>
      some (s106, 0)))
theorem labels_Print_ev (a0 : List S49) : OLe (labels_Print_c a0) (labels_Print a0) := by
  unfold labels_Print_c labels_Print
  exact (OLe.bind (labels_right_ev _) (fun _ => (OLe.cond (OLe.refl _) (OLe.bind (labels_Get_ev _ _) (fun _ => (OLe.bind (labels_Metric_ev _) (fun _ => (OLe.bind (OLe.cond (OLe.bind (labels_pick_ev _ _ _) (fun _ => (OLe.refl _))) (OLe.refl _)) (fun _ => (OLe.cond (OLe.refl _) (OLe.bind (OLe.loop (fun _ => labels_Print_l72_ev _ _)) (fun _ => (OLe.bind (OLe.refl _) (fun _ => (OLe.bind (strings_Join_ev _ _) (fun _ => (OLe.bind (OLe.refl _) (fun _ => (OLe.bind (OLe.refl _) (fun _ => (OLe.refl _)))))))))))))))))))))
noncomputable def tocsinlaw04_awake_c : Option Bool :=
  Option.bind (labels_Parse_c (⟨#[117, 112, 32, 123, 32, 106, 111, 98, 32, 61, 32, 34, 120, 34, 32, 44, 32, 125]⟩ : ByteArray)) fun (y1 : (List S49) × Int × Int) =>
  Option.bind (labels_Print_c y1.1) fun (y10 : ByteArray × Int) =>
  Option.bind (bif (y1.2.1 == 0) then
    (bif (y10.2 == 0) then
      (bif (y10.1.toList == (⟨#[117, 112, 123, 106, 111, 98, 61, 34, 120, 34, 125]⟩ : ByteArray).toList) then
        (Option.bind (labels_Get_c y1.1 (⟨#[106, 111, 98]⟩ : ByteArray)) fun (y20 : ByteArray) =>
          bif (y20.toList == (⟨#[120]⟩ : ByteArray).toList) then
          (Option.bind (labels_Hash_c []) fun (y23 : Int) =>
            some (y23 == 14695981039346656037))
          else
          (some false))
        else
        (some false))
      else
      (some false))
    else
    (some false)) fun (j12 : Bool) =>
  some j12
theorem tocsinlaw04_awake_ev  : OLe (tocsinlaw04_awake_c ) (tocsinlaw04_awake ) := by
  unfold tocsinlaw04_awake_c tocsinlaw04_awake
  exact (OLe.bind (labels_Parse_ev _) (fun _ => (OLe.bind (labels_Print_ev _) (fun _ => (OLe.bind (OLe.cond (OLe.cond (OLe.cond (OLe.bind (labels_Get_ev _ _) (fun _ => (OLe.cond (OLe.bind (labels_Hash_ev _) (fun _ => (OLe.refl _))) (OLe.refl _)))) (OLe.refl _)) (OLe.refl _)) (OLe.refl _)) (fun _ => (OLe.refl _)))))))
end Go.Proofs.YtnlkfajnaelnnaaGreatDoor

namespace Go.Proofs.YtnlkfajnaelnnaaGreatDoor
open Go.GB
theorem awake04 : tocsinlaw04_awake = some true := tocsinlaw04_awake_ev _ (by kernel_rfl)
end Go.Proofs.YtnlkfajnaelnnaaGreatDoor

set_option linter.unusedVariables false
set_option maxRecDepth 100000
namespace Go.Proofs.YtnlkfajnaelnnaaGreatDoor
open Go.GB Go.Lib
theorem keeps_len (l : List LB) (p : LB → Bool) (hl : l.length < 2147483600) : (bif (rightE l).1 != 0 then (([] : List LB), (rightE l).1) else (l.filter p, 0)).1.length < 2147483600 := by
  have := List.length_filter_le p l
  cases (rightE l).1 != 0
  · show (l.filter p).length < _; omega
  · simp
theorem turns_core (l : List LB) (n v : ByteArray) (names : List ByteArray) (hl : l.length < 2147483600) (hn : names.length < 2147483600) : tocsinlaw04_LabelsTurns l n v names = some true := by
  obtain ⟨r, h1, h2, h3, _⟩ := With_eq l n v (by omega)
  obtain ⟨k1, k2, k3⟩ := Without_eq l names (by omega) (by omega)
  have l1 := keeps_len l (fun x => (hasB names x.f0 == false)) hl
  have l2 := keeps_len l (fun x => (hasB names x.f0 == true)) hl
  unfold tocsinlaw04_LabelsTurns
  rw [Lent_eq l (by omega)]
  simp only [Option.bind_some, h1, h2, k1, k2, k3]
  generalize (bif (rightE l).1 != 0 then (([] : List LB), (rightE l).1) else (l.filter fun x => (hasB names x.f0 == false), 0)) = u at l1 ⊢
  generalize (bif (rightE l).1 != 0 then (([] : List LB), (rightE l).1) else (l.filter fun x => (hasB names x.f0 == true), 0)) = w at l2 ⊢
  simp only [Option.bind_some, same_self r.1 (by omega), same_self u.1 (by omega), same_self w.1 (by omega), Bool.not_true, cond_false, bne_self_eq_false, Kept_eq l (by omega), Spoil_ok r.1 (by omega), Spoil_ok u.1 (by omega), Spoil_ok w.1 (by omega), cond_true, awake04]
theorem tocsinlaw04_LabelsTurns_true {I : Imm} {c0 c1 c2 c3 : List Value} {n0 n1 n2 n3 : Nat} (a0 : List S49) (a1 a2 : ByteArray) (a3 : List ByteArray) (h0 : (Kd.sl kS49).R I a0 c0) (h1 : Kd.str.R I a1 c1) (h2 : Kd.str.R I a2 c2) (h3 : (Kd.sl Kd.str).R I a3 c3)
    (w0 : wSl wS49 a0 n0) (w1 : wStr a1 n1) (w2 : wStr a2 n2) (w3 : wSl wStr a3 n3) (hn : n0 + n1 + n2 + n3 ≤ 1048576) : tocsinlaw04_LabelsTurns a0 a1 a2 a3 = some true :=
  turns_core a0 a1 a2 a3 (by have := w0.len; omega) (by have := w3.len; omega)
end Go.Proofs.YtnlkfajnaelnnaaGreatDoor
