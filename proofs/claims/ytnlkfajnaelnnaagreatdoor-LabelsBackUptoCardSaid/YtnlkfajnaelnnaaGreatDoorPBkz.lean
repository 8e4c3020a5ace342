/- LabelsBack. -/
import Derived.Test.YtnlkfajnaelnnaaGreatDoorPG3xz
import Derived.Test.YtnlkfajnaelnnaaGreatDoorLX1z
import Derived.Test.YtnlkfajnaelnnaaGreatDoorPA3z
import Derived.KernelRfl
import Derived.Lib.LaidU8T
import Derived.Shelf.Unicode.ValidAny
import Derived.Shelf.Strings.OnBuilder
import Derived.Shelf.Strings.Count
/- Plain laws of chapter 4: names that stand twice; Make, Pick, With. -/
set_option linter.unusedVariables false
set_option linter.unusedSimpArgs false
set_option maxRecDepth 100000
namespace Go.Proofs.YtnlkfajnaelnnaaGreatDoor
open Go.GB Go.Lib
/-- No name stands twice. -/
def Once (l : List LB) : Prop := ∀ k, (l.filter (eqv ltN k)).length ≤ 1
theorem Once.fe {l m : List LB} (h : FE ltN l m) : Once l ↔ Once m := ⟨fun o k => by rw [← h k]; exact o k, fun o k => by rw [h k]; exact o k⟩
theorem Once.cons {x : LB} {l : List LB} : Once (x :: l) ↔ (∀ y ∈ l, x.f0 ≠ y.f0) ∧ Once l := by
  constructor
  · intro h
    refine ⟨fun y hy e => ?_, fun k => ?_⟩
    · have := h x
      rw [List.filter_cons_of_pos (swoN.eqv_self x), List.length_cons] at this
      have h2 : 0 < (l.filter (eqv ltN x)).length := List.length_pos_of_mem (List.mem_filter.2 ⟨hy, (eqvN x y).2 e⟩)
      omega
    · have := h k
      cases hk : eqv ltN k x with
      | true => rw [List.filter_cons_of_pos hk, List.length_cons] at this; omega
      | false => rw [List.filter_cons_of_neg (by rw [hk]; exact Bool.false_ne_true)] at this; exact this
  · rintro ⟨h1, h2⟩ k
    cases hk : eqv ltN k x with
    | true =>
      have hn : l.filter (eqv ltN k) = [] := by
        rw [List.filter_eq_nil_iff]
        intro y hy hky
        exact h1 y hy (((eqvN k x).1 hk).symm.trans ((eqvN k y).1 hky))
      rw [List.filter_cons_of_pos hk, hn]; simp
    | false => rw [List.filter_cons_of_neg (by rw [hk]; exact Bool.false_ne_true)]; exact h2 k
theorem Once.nil : Once [] := fun k => by simp
theorem Once.pairwise {l : List LB} : Once l ↔ l.Pairwise fun x y => x.f0 ≠ y.f0 := by
  induction l with
  | nil => exact ⟨fun _ => List.Pairwise.nil, fun _ => Once.nil⟩
  | cons x l ih => rw [Once.cons, List.pairwise_cons, ih]
/-- Of a sorted list two neighbours tell it. -/
theorem adjB_once {z : List LB} (h : Sorted ltN z) : adjB z z.length = true ↔ ¬ Once z := by
  rw [Once.pairwise]
  constructor
  · intro ha hp
    obtain ⟨i, hi, hb⟩ := List.any_eq_true.1 ha
    have hi' := List.mem_range.1 hi
    by_cases h0 : 0 < i
    · rw [show decide (0 < i) = true from decide_eq_true h0] at hb
      simp only [cond_true, List.getElem?_eq_getElem (show i - 1 < z.length by omega), List.getElem?_eq_getElem hi'] at hb
      exact List.pairwise_iff_getElem.1 hp (i - 1) i (by omega) hi' (by omega) (toList_inj.1 hb)
    · rw [show decide (0 < i) = false from decide_eq_false h0] at hb; cases hb
  · intro hp
    rw [← Bool.not_eq_false]
    intro ha
    apply hp
    rw [List.pairwise_iff_getElem]
    intro i j hi hj hij e
    -- then i and i + 1 have one name too
    have s1 : ltN z[i + 1] z[i] = false := List.pairwise_iff_getElem.1 h i (i + 1) hi (by omega) (by omega)
    have s2 : ltN z[j] z[i + 1] = false := by
      rcases Nat.lt_or_ge (i + 1) j with h' | h'
      · exact List.pairwise_iff_getElem.1 h (i + 1) j (by omega) hj h'
      · obtain rfl : j = i + 1 := by omega
        exact swoN.irrefl _
    have e1 : z[i].f0 = z[i + 1].f0 := by
      refine (eqvN _ _).1 (eqv_iff.2 ⟨?_, s1⟩)
      rw [ltN_eq] at s2 ⊢
      rw [e]; exact s2
    have : adjB z z.length = true := by
      refine List.any_eq_true.2 ⟨i + 1, List.mem_range.2 (by omega), ?_⟩
      rw [show decide (0 < i + 1) = true from decide_eq_true (by omega)]
      simp only [cond_true, Nat.add_sub_cancel, List.getElem?_eq_getElem hi, List.getElem?_eq_getElem (show i + 1 < z.length by omega)]
      exact toList_inj.2 e1
    rw [this] at ha; cases ha
theorem sts_filter {p : LB → Bool} {l z : List LB} (h : StS ltN l z) : StS ltN (l.filter p) (z.filter p) := by
  refine ⟨fun k => ?_, h.2.filter p⟩
  rw [List.filter_filter, List.filter_filter]
  have := congrArg (List.filter p) (h.1 k)
  rw [List.filter_filter, List.filter_filter] at this
  simpa [Bool.and_comm] using this
theorem right_eq (l : List LB) : labels_right l = some (rightE l).1 := by unfold labels_right; rw [Right_eq]; rfl
/-- The labels whose names are, are not, among some. -/
def hasB (names : List ByteArray) (s : ByteArray) : Bool := names.any fun x => (x.toList == s.toList)
theorem Contains_eq (names : List ByteArray) (s : ByteArray) (hn : names.length < 2147483648) : slices_Contains names s = some (hasB names s) := by
  unfold slices_Contains slices_Index hasB
  rw [up_find (n := names.length) (fun j => match names[j]? with | some y => if (s.toList == y.toList) = true then some (j : Int) else none | none => none) (fun j hj => ?_) ?_]
  · simp only [Option.bind_some]
    cases hf : (List.range names.length).findSome? (fun j => match names[j]? with | some y => if (s.toList == y.toList) = true then some (j : Int) else none | none => none) with
    | none =>
      rw [List.findSome?_eq_none_iff] at hf
      rw [show (names.any fun x => (x.toList == s.toList)) = false from by
        rw [List.any_eq_false]
        intro x hx
        obtain ⟨j, hj, rfl⟩ := List.getElem_of_mem hx
        have := hf j (List.mem_range.2 hj)
        rw [List.getElem?_eq_getElem hj] at this
        simp only at this
        split at this
        · cases this
        · rename_i h; intro e; exact h (toList_inj.2 (toList_inj.1 e).symm)]
      rfl
    | some b =>
      obtain ⟨j, hj, hjb⟩ := List.exists_of_findSome?_eq_some hf
      have hj' := List.mem_range.1 hj
      rw [List.getElem?_eq_getElem hj'] at hjb
      simp only at hjb
      split at hjb <;> try (cases hjb; done)
      rename_i h
      simp only [Option.some.injEq] at hjb
      subst hjb
      rw [show (names.any fun x => (x.toList == s.toList)) = true from List.any_eq_true.2 ⟨names[j], List.getElem_mem hj', toList_inj.2 (toList_inj.1 h).symm⟩]
      simp
  · unfold slices_Index_l17
    rw [show decide ((names.length : Int) < (names.length : Int)) = false from decide_eq_false (by omega)]; rfl
  · unfold slices_Index_l17
    rw [show decide ((j : Int) < (names.length : Int)) = true from decide_eq_true (by omega)]
    simp only [cond_true, ix_nat, List.getElem?_eq_getElem hj, Option.bind_some, wrap_up (show j < 4294967296 by omega)]
    cases (s.toList == names[j].toList) <;> rfl
theorem pick_eq (l : List LB) (b : Bool) (names : List ByteArray) (hl : l.length < 2147483648) (hn : names.length < 2147483648) : labels_pick l b names = some (l.filter fun x => (hasB names x.f0 == b)) := by
  unfold labels_pick
  rw [filter_up l (fun x => (hasB names x.f0 == b)) id (by omega) (fun acc i hi ha => ?_) (fun acc => ?_)]
  · rfl
  · unfold labels_pick_l28
    rw [show decide ((i : Int) < (l.length : Int)) = true from decide_eq_true (by omega)]
    simp only [cond_true, ix_nat, List.getElem?_eq_getElem hi, Option.bind_some, wrap_up (show i < 4294967296 by omega), Contains_eq names _ hn]
    rw [app_eq (by simp; omega)]
    cases (hasB names l[i].f0 == b) <;> rfl
  · unfold labels_pick_l28
    rw [show decide ((l.length : Int) < (l.length : Int)) = false from decide_eq_false (by omega)]; rfl
end Go.Proofs.YtnlkfajnaelnnaaGreatDoor

/- Plain laws of chapter 4: With, Get; what is spoilt. -/
set_option linter.unusedVariables false
set_option linter.unusedSimpArgs false
set_option maxRecDepth 100000
namespace Go.Proofs.YtnlkfajnaelnnaaGreatDoor
open Go.GB Go.Lib
theorem right_rising {l : List LB} (h : (rightE l).1 = 0) : l.Pairwise fun x y => ltN x y = true := by
  obtain ⟨h1, h2⟩ := right_none h
  rw [List.pairwise_iff_getElem]
  intro i j hi hj hij
  have step : ∀ k, ∀ (hk : k + 1 < l.length), ltN (l[k]'(by omega)) l[k + 1] = true := by
    intro k hk
    have h3 := h2 (k + 1) hk
    unfold faultAt at h3
    rw [List.getElem?_eq_getElem hk] at h3
    simp only at h3
    split at h3
    · cases h3
    · rw [if_neg (by omega), Nat.add_sub_cancel, List.getElem?_eq_getElem (by omega)] at h3
      simp only at h3
      split at h3
      · rename_i hc; rw [ltN_eq]; exact decide_eq_true hc
      · cases h3
  have key : ∀ d, ∀ (hd : i + 1 + d < l.length), ltN l[i] l[i + 1 + d] = true := by
    intro d
    induction d with
    | zero => intro hd; exact step i (by omega)
    | succ d ih =>
      intro hd
      have a := ih (by omega)
      have b := step (i + 1 + d) (by omega)
      rw [ltN_eq] at a b ⊢
      exact decide_eq_true (cmpS_trans (of_decide_eq_true a) (of_decide_eq_true b))
  have := key (j - (i + 1)) (by omega)
  rw [show l[j] = l[i + 1 + (j - (i + 1))] from by congr 1; omega]
  exact this
theorem right_sorted {l : List LB} (h : (rightE l).1 = 0) : Sorted ltN l := (right_rising h).imp fun hab => swoN.asymm _ _ hab
theorem right_once {l : List LB} (h : (rightE l).1 = 0) : Once l := Once.pairwise.2 ((right_rising h).imp fun {a b} hab e => by
  rw [ltN_eq, e, cmpS_self] at hab; cases hab)
theorem right_hasV {l : List LB} (h : (rightE l).1 = 0) : ∀ x ∈ l, hasV x = true := fun x hx => by
  have := (one_parts ((right_parts h).2 x hx)).2.1
  unfold hasV
  rw [nil_size]
  simp [this]
theorem filter_all {α : Type} {p : α → Bool} {l : List α} (h : ∀ x ∈ l, p x = true) : l.filter p = l := List.filter_eq_self.2 h
def getE (l : List LB) (n : ByteArray) : ByteArray := ((l.find? fun x => (x.f0.toList == n.toList)).map fun x => x.f1).getD ⟨#[]⟩
theorem find_some {α β : Type} (l : List α) (p : α → Bool) (f : α → β) : (List.range l.length).findSome? (fun i => (l[i]?).bind fun x => if p x = true then some (f x) else none) = (l.find? p).map f := by
  induction l with
  | nil => rfl
  | cons x l ih =>
    rw [List.length_cons, List.range_succ_eq_map, List.findSome?_cons]
    simp only [List.getElem?_cons_zero, Option.bind_some]
    by_cases h : p x = true
    · rw [if_pos h, List.find?_cons_of_pos h]; rfl
    · rw [if_neg h, List.find?_cons_of_neg h]
      simp only
      rw [List.findSome?_map, ← ih]
      congr 1
theorem Get_eq (l : List LB) (n : ByteArray) (hl : l.length < 2147483648) : labels_Get l n = some (getE l n) := by
  unfold labels_Get
  rw [up_find (n := l.length) (fun i => (l[i]?).bind fun x => if (x.f0.toList == n.toList) = true then some x.f1 else none) (fun i hi => ?_) ?_, find_some l (fun x => (x.f0.toList == n.toList)) (fun x => x.f1)]
  · unfold getE
    cases l.find? fun x => (x.f0.toList == n.toList) <;> rfl
  · unfold labels_Get_l17
    rw [show decide ((l.length : Int) < (l.length : Int)) = false from decide_eq_false (by omega)]; rfl
  · unfold labels_Get_l17
    rw [show decide ((i : Int) < (l.length : Int)) = true from decide_eq_true (by omega)]
    simp only [cond_true, ix_nat, List.getElem?_eq_getElem hi, Option.bind_some, wrap_up (show i < 4294967296 by omega)]
    cases (l[i].f0.toList == n.toList) <;> rfl
end Go.Proofs.YtnlkfajnaelnnaaGreatDoor

/- Plain laws: what is made of the labels that are read; what was printed and read is the set that it was. -/
set_option linter.unusedVariables false
set_option linter.unusedSimpArgs false
set_option maxRecDepth 100000
namespace Go.Proofs.YtnlkfajnaelnnaaGreatDoor
open Go.GB Go.Lib
theorem hasB_one' (n s : ByteArray) : hasB [n] s = true ↔ n = s := by
  simp only [hasB, List.any_cons, List.any_nil, Bool.or_false]
  rw [tl_inj, beq_iff_eq]
  exact ⟨fun h => ba_ext h, fun h => by rw [h]⟩
noncomputable def restL (l : List LB) : List LB := l.filter fun x => (hasB [metricT] x.f0 == false)
theorem right_named {l : List LB} (h : (rightE l).1 = 0) : ∀ x ∈ l, namedB x.f0 64 false = true := fun x hx => (one_parts ((right_parts h).2 x hx)).1
theorem rest_named {l : List LB} (h : (rightE l).1 = 0) : ∀ x ∈ restL l, namedB x.f0 64 false = true := fun x hx => right_named h x ((List.mem_filter.1 hx).1)
theorem once_cls {l : List LB} (h : Once l) {x : LB} (hx : x ∈ l) : l.filter (eqv ltN x) = [x] := by
  have h1 := h x
  have h2 : x ∈ l.filter (eqv ltN x) := List.mem_filter.2 ⟨hx, swoN.eqv_self x⟩
  match hm : l.filter (eqv ltN x) with
  | [] => rw [hm] at h2; cases h2
  | [y] => rw [hm] at h2; simp at h2; rw [h2]
  | y :: z :: r => rw [hm] at h1; simp at h1
theorem getE_mem {l : List LB} {n : ByteArray} (h : (getE l n).size ≠ 0) : ⟨n, getE l n⟩ ∈ l := by
  unfold getE at h ⊢
  cases hf : l.find? fun x => (x.f0.toList == n.toList) with
  | none => rw [hf] at h; exact absurd rfl h
  | some x =>
    simp only [Option.map_some, Option.getD_some]
    have h1 := List.find?_some hf
    have h2 := List.mem_of_find?_eq_some hf
    rw [tl_inj, beq_iff_eq] at h1
    rw [← ba_ext h1]
    exact h2
/-- The metric's name ahead: the same labels. -/
theorem front_fe {l : List LB} (ho : Once l) {v : ByteArray} (hm : (⟨metricT, v⟩ : LB) ∈ l) : FE ltN (⟨metricT, v⟩ :: restL l) l := fun k => by
  by_cases hk : eqv ltN k ⟨metricT, v⟩ = true
  · have he := (eqvN _ _).1 hk
    have hcls := once_cls ho hm
    have hsame : ∀ y : LB, eqv ltN k y = eqv ltN ⟨metricT, v⟩ y := fun y => by rw [Bool.eq_iff_iff, eqvN, eqvN, he]
    rw [show (eqv ltN k) = eqv ltN ⟨metricT, v⟩ from funext hsame, hcls, List.filter_cons, if_pos (swoN.eqv_self _)]
    congr 1
    rw [List.filter_eq_nil_iff]
    intro y hy hy2
    have h1 := (List.mem_filter.1 hy).2
    have h2 := (eqvN _ _).1 hy2
    have h3 := (hasB_one' metricT y.f0).2 h2
    rw [h3] at h1; cases h1
  · rw [List.filter_cons, if_neg hk]
    unfold restL
    rw [List.filter_filter]
    refine List.filter_congr fun y hy => ?_
    cases h1 : eqv ltN k y with
    | false => simp
    | true =>
      have h2 := (eqvN _ _).1 h1
      have h3 : hasB [metricT] y.f0 = false := by
        rw [Bool.eq_false_iff]
        intro h3
        exact hk ((eqvN _ _).2 (by rw [h2]; exact ((hasB_one' _ _).1 h3).symm))
      rw [h3]; rfl
theorem sts_right {l m w : List LB} (h : (rightE l).1 = 0) (hf : FE ltN m l) (hw : StS ltN (m.filter hasV) w) : w = l := by
  have h1 : StS ltN l l := ⟨FE.refl l, right_sorted h⟩
  refine StS.uniq swoN hw ?_
  have hl : l.filter hasV = l := filter_all (right_hasV h)
  have h2 : StS ltN m l := ⟨hf.symm, right_sorted h⟩
  have := sts_filter (p := hasV) h2
  rwa [hl] at this
/-- the text of a label set -/
noncomputable def textL (l : List LB) : List UInt8 := if namedB (getE l metricT) 256 true = true then printT (some (getE l metricT)) (restL l) else printT none l
theorem itemT_pos (x : LB) : 1 ≤ (itemT x).length := by simp [itemT]; omega
theorem bodyT_len : ∀ l : List LB, l.length ≤ (bodyT l).length
  | [] => by simp
  | [x] => by have := itemT_pos x; simp [bodyT]; omega
  | x :: y :: r => by
    have h1 := itemT_pos x
    have h2 := bodyT_len (y :: r)
    rw [bodyT]
    simp only [List.length_append, List.length_cons] at h2 ⊢
    omega
theorem text_back {l : List LB} (h : (rightE l).1 = 0) {s : ByteArray} (hs : tl s = textL l) : ∃ m, parseL s = .inr m ∧ FE ltN m l ∧ Once m := by
  unfold textL at hs
  have hlen : (tl s).length = s.size := tl_len s
  split at hs
  · rename_i hv
    have hm : (⟨metricT, getE l metricT⟩ : LB) ∈ l := getE_mem (fun e => by have := (named_nam hv).2; exact this (List.eq_nil_of_length_eq_zero (by rw [tl_len, e])))
    have hfe := front_fe (right_once h) hm
    refine ⟨_, parse_some hs hv ?_ (rest_named h), hfe, (Once.fe hfe).2 (right_once h)⟩
    rw [← hlen, hs]
    unfold printT
    have := bodyT_len (restL l)
    by_cases hr : restL l = []
    · simp [hr]
    · simp only [if_neg hr, List.length_append, List.length_cons]; omega
  · refine ⟨_, parse_none hs ?_ (right_named h), FE.refl l, right_once h⟩
    rw [← hlen, hs]
    unfold printT
    have := bodyT_len l
    simp only [List.length_append, List.length_cons]; omega
/-! ### how long it is -/
theorem qBody_len (v : List UInt8) : (qBody v).length ≤ 2 * v.length := by
  have h1 := RQ.q_len v
  have h2 := List.countP_le_length (p := RQ.spec) (l := v)
  omega
theorem itemT_len {x : LB} (h : oneE x = 0) : (itemT x).length ≤ 600 := by
  obtain ⟨h1, h2, h3, _⟩ := one_parts h
  have h4 := (named_valid h1).1
  have h5 := qBody_len (tl x.f1)
  rw [tl_len] at h5
  simp only [itemT, List.length_append, List.length_cons, tl_len, List.length_nil]
  omega
theorem bodyT_max : ∀ {l : List LB}, (∀ x ∈ l, oneE x = 0) → (bodyT l).length ≤ 601 * l.length
  | [], _ => by simp [bodyT]
  | [x], h => by have := itemT_len (h x (by simp)); simp [bodyT]; omega
  | x :: y :: r, h => by
    have h1 := itemT_len (h x (by simp))
    have h2 := bodyT_max (l := y :: r) (fun z hz => h z (List.mem_cons_of_mem _ hz))
    rw [bodyT]
    simp only [List.length_append, List.length_cons] at h2 ⊢
    omega
theorem textL_len {l : List LB} (h : (rightE l).1 = 0) : (textL l).length ≤ 10000 := by
  obtain ⟨h1, h2⟩ := right_parts h
  have h3 := bodyT_max h2
  have h4 := bodyT_max (l := restL l) (fun x hx => h2 x ((List.mem_filter.1 hx).1))
  have h5 : (restL l).length ≤ l.length := List.length_filter_le _ _
  unfold textL
  split
  · rename_i hv
    have h6 : (tl (getE l metricT)).length ≤ 256 := by
      rw [tl_len]; exact (named_valid hv).1
    unfold printT
    simp only
    split
    · omega
    · simp only [List.length_append, List.length_cons, List.length_nil]; omega
  · unfold printT
    simp only [List.length_append, List.length_cons, List.length_nil]; omega
end Go.Proofs.YtnlkfajnaelnnaaGreatDoor

/- Plain laws of chapter 4: what is lent and kept; what is spoilt. -/
set_option linter.unusedVariables false
set_option linter.unusedSimpArgs false
set_option maxRecDepth 100000
namespace Go.Proofs.YtnlkfajnaelnnaaGreatDoor
open Go.GB Go.Lib
theorem Metric_eq (s : ByteArray) : labels_Metric s = some (namedB s 256 true) := by
  unfold labels_Metric
  rw [show (256 : Int) = ((256 : Nat) : Int) from rfl, named_eq s (by omega) true]
  rfl
end Go.Proofs.YtnlkfajnaelnnaaGreatDoor

/- Plain laws: Parse: the program's is the document's. -/
set_option linter.unusedVariables false
set_option linter.unusedSimpArgs false
set_option maxRecDepth 100000
namespace Go.Proofs.YtnlkfajnaelnnaaGreatDoor
open Go.GB Go.Lib
/-! ### how many labels -/
theorem setL_len {s : ByteArray} : ∀ (f i : Nat) (acc : List S49) {v : List S49 × Nat}, i ≤ s.size → acc.length ≤ i → setL f s i acc = .inr v → v.1.length ≤ s.size
  | 0, i, acc, v, hi, ha, h => by rw [setL] at h; cases h
  | f + 1, i, acc, v, hi, ha, h => by
    have hb := blk_le (l := tl s) (i := i) (by rw [tl_len]; exact hi)
    rw [tl_len] at hb
    rw [setL] at h
    split at h
    · cases h; simp only; omega
    · split at h
      · cases h
      · rename_i x q hq
        have hp := itemP_le hb.2 hq
        have hb4 := blk_le (l := tl s) (i := q) (by rw [tl_len]; exact hp.2)
        rw [tl_len] at hb4
        split at h
        · rename_i h7
          have h8 := gB_in (l := tl s) (i := blk (tl s) q) (by omega)
          rw [tl_len] at h8
          exact setL_len f _ _ h8 (by simp; omega) h
        · split at h
          · cases h; simp; omega
          · cases h
theorem fin_len {s : ByteArray} {p : Nat} {l m : List S49} (h : finL s p l = .inr m) : m = l := by
  unfold finL at h
  split at h <;> cases h
  rfl
theorem braces_len {s : ByteArray} {i : Nat} {l m : List S49} (hi : i ≤ s.size) (h : bracesL s i l = .inr m) : m.length ≤ l.length + s.size := by
  unfold bracesL at h
  split at h
  · cases h
  · rename_i x p hx
    have := setL_len _ _ _ hi (by simp) hx
    rw [fin_len h, List.length_append]
    simp only at this; omega
theorem parseL_len {s : ByteArray} {m : List S49} (h : parseL s = .inr m) : m.length ≤ s.size + 1 := by
  have hb := blk_le (l := tl s) (i := 0) (by omega)
  rw [tl_len] at hb
  unfold parseL at h
  split at h
  · rename_i h1
    have h2 := gB_in (l := tl s) (i := blk (tl s) 0) (by omega)
    rw [tl_len] at h2
    have := braces_len h2 h
    simp at this; omega
  · split at h
    · split at h
      · rename_i h1
        have h2 := gB_in (l := tl s) (i := blk (tl s) (runN (tl s) true (blk (tl s) 0))) (by omega)
        rw [tl_len] at h2
        have := braces_len h2 h
        simp at this; omega
      · rw [fin_len h]; simp
    · cases h
end Go.Proofs.YtnlkfajnaelnnaaGreatDoor

/- Plain laws: Print: the program's and the document's are the text. -/
set_option linter.unusedVariables false
set_option linter.unusedSimpArgs false
set_option maxRecDepth 100000
namespace Go.Proofs.YtnlkfajnaelnnaaGreatDoor
open Go.GB Go.Lib
theorem sadd_eq {a b : ByteArray} (h : a.size + b.size ≤ 9223372036854775807) : sadd a b = some (a ++ b) := by unfold sadd; rw [if_pos h]
theorem tl_app (a b : ByteArray) : tl (a ++ b) = tl a ++ tl b := by
  show (a ++ b).data.toList = _
  rw [ByteArray.data_append, Array.toList_append]
def qText (s : ByteArray) : ByteArray := ⟨(34 :: (qBody (tl s) ++ [34])).toArray⟩
theorem quoted_eq {s : ByteArray} (h : s.size ≤ 1048576) : labels_quoted s = some (qText s) := by
  unfold labels_quoted
  rw [show Nat.ble s.size 1048576 = true from Nat.ble_eq_true_of_le h]; rfl
theorem size_tl (a : ByteArray) : a.size = (tl a).length := (tl_len a).symm
theorem qText_size (s : ByteArray) : (qText s).size ≤ 2 * s.size + 2 := by
  have := qBody_len (tl s)
  rw [tl_len] at this
  rw [size_tl]
  show (34 :: (qBody (tl s) ++ [34])).length ≤ _
  simp; omega
/-! ### the document's quotes -/
/-! ### a label's text -/
def partB (x : LB) : ByteArray := x.f0 ++ ⟨#[61]⟩ ++ qText x.f1
theorem partB_tl (x : LB) : tl (partB x) = itemT x := by
  unfold partB itemT
  rw [tl_app, tl_app, List.append_assoc]; rfl
theorem join_body : ∀ l : List LB, Go.Lib.join ((l.map partB).map (·.data.toList)) [44] = bodyT l
  | [] => rfl
  | [x] => by
    rw [List.map_cons, List.map_nil, List.map_cons, List.map_nil, Go.Lib.join_one]
    exact partB_tl x
  | x :: y :: r => by
    have ih := join_body (y :: r)
    have h1 : tl (partB x) = itemT x := partB_tl x
    rw [bodyT, ← ih, ← h1]
    simp [Go.Lib.join, List.intercalate, List.intersperse]
theorem parts_loop {v : ByteArray} {rest : List LB} (hl : rest.length ≤ 16) (h : ∀ x ∈ rest, oneE x = 0) : loopO (labels_Print_l72 (v, rest)) ([], 0) = some (rest.map partB) := by
  have := fold_up (body := labels_Print_l72 (v, rest)) rest (fun acc x => acc ++ [partB x]) id (fun acc i => acc.length ≤ i) (fun acc i hi hI => ?_) (fun acc _ => ?_) rest.length 0 [] (by omega) (by omega) (by simp)
  · rw [List.drop_zero] at this
    have key : ∀ (l : List LB) (acc : List ByteArray), l.foldl (fun acc x => acc ++ [partB x]) acc = acc ++ l.map partB := by
      intro l
      induction l with
      | nil => intro acc; simp
      | cons x l ih => intro acc; rw [List.foldl_cons, ih]; simp
    rw [key, List.nil_append] at this
    exact this
  · obtain ⟨h1, h2, h3, _⟩ := one_parts (h rest[i] (List.getElem_mem hi))
    have h4 := (named_valid h1).1
    have h5 := qText_size rest[i].f1
    refine ⟨?_, by simp; omega⟩
    unfold labels_Print_l72
    simp only [show decide ((i : Int) < (rest.length : Int)) = true from decide_eq_true (by omega), cond_true, ix_nat, List.getElem?_eq_getElem hi, Option.bind_some, quoted_eq (show rest[i].f1.size ≤ 1048576 by omega),
      sadd_eq (a := rest[i].f0) (b := ⟨#[61]⟩) (by show _ + 1 ≤ _; omega), sadd_eq (a := rest[i].f0 ++ ⟨#[61]⟩) (b := qText rest[i].f1) (by rw [ByteArray.size_append]; show _ + 1 + _ ≤ _; omega), wrap_up (show i < 4294967296 by omega)]
    rw [app_eq (by simp; omega)]
    rfl
  · unfold labels_Print_l72
    simp only [show decide ((rest.length : Int) < (rest.length : Int)) = false from decide_eq_false (by omega), cond_false]; rfl
/-- the text itself -/
theorem whole_text {v : ByteArray} {rest : List LB} (hv : v.size ≤ 256) (hb : (bodyT rest).length ≤ 10000) (hl : rest.length ≤ 16) (h : ∀ x ∈ rest, oneE x = 0) :
    (Option.bind (loopO (labels_Print_l72 (v, rest)) ([], 0)) fun (r53 : (List ByteArray)) =>
      Option.bind (sadd v (⟨#[123]⟩ : ByteArray)) fun (s100 : ByteArray) =>
      Option.bind (strings_Join r53 (⟨#[44]⟩ : ByteArray)) fun (y102 : ByteArray) =>
      Option.bind (sadd s100 y102) fun (s104 : ByteArray) =>
      Option.bind (sadd s104 (⟨#[125]⟩ : ByteArray)) fun (s106 : ByteArray) =>
      some (s106, (0 : Int))) = some (⟨(tl v ++ 123 :: (bodyT rest ++ [125])).toArray⟩, 0) := by
  have hj : strings_Join (rest.map partB) ⟨#[44]⟩ = some ⟨(bodyT rest).toArray⟩ := by
    unfold strings_Join
    rw [show (⟨#[44]⟩ : ByteArray).data.toList = [44] from rfl, join_body, show Nat.ble (bodyT rest).length 140737488355328 = true from Nat.ble_eq_true_of_le (by omega)]; rfl
  have s1 : (⟨(bodyT rest).toArray⟩ : ByteArray).size = (bodyT rest).length := size_tl _
  rw [parts_loop hl h]
  simp only [Option.bind_some, hj, sadd_eq (a := v) (b := ⟨#[123]⟩) (by show _ + 1 ≤ _; omega)]
  rw [sadd_eq (by rw [ByteArray.size_append, s1]; show v.size + 1 + _ ≤ _; omega)]
  simp only [Option.bind_some]
  rw [sadd_eq (by rw [ByteArray.size_append, ByteArray.size_append, s1]; show v.size + 1 + _ + 1 ≤ _; omega)]
  simp only [Option.bind_some]
  congr 2
  refine ba_ext ?_
  rw [tl_app, tl_app, tl_app]
  show tl v ++ [123] ++ bodyT rest ++ [125] = tl v ++ 123 :: (bodyT rest ++ [125])
  simp
theorem nil_beq (a : ByteArray) : (a.toList == (⟨#[]⟩ : ByteArray).toList) = decide (a.size = 0) := nil_size a
theorem right_len {l : List LB} (h : (rightE l).1 = 0) : l.length ≤ 16 := (right_parts h).1
theorem rest_one {l : List LB} (h : (rightE l).1 = 0) : ∀ x ∈ restL l, oneE x = 0 := fun x hx => (right_parts h).2 x (List.mem_filter.1 hx).1
theorem Print_eq (l : List LB) (hl : l.length < 2147483640) : labels_Print l = some (if (rightE l).1 = 0 then (⟨(textL l).toArray⟩, 0) else (⟨#[]⟩, (rightE l).1)) := by
  unfold labels_Print
  rw [right_eq]
  simp only [Option.bind_some]
  by_cases h : (rightE l).1 = 0
  · have h16 := right_len h
    have hr16 : (restL l).length ≤ 16 := Nat.le_trans (List.length_filter_le _ _) h16
    have b1 := bodyT_max (right_parts h).2
    have b2 := bodyT_max (rest_one h)
    have hp : labels_pick l false [⟨#[95, 95, 110, 97, 109, 101, 95, 95]⟩] = some (restL l) := pick_eq l false [metricT] (by omega) (by simp)
    have hg : labels_Get l ⟨#[95, 95, 110, 97, 109, 101, 95, 95]⟩ = some (getE l metricT) := Get_eq l metricT (by omega)
    rw [h, if_pos rfl]
    simp only [bne_self_eq_false, cond_false, hg, Option.bind_some, Metric_eq, hp]
    unfold textL printT
    cases hv : namedB (getE l metricT) 256 true with
    | true =>
      have hv2 := named_valid hv
      simp only [cond_true, Option.bind_some, nil_beq, decide_eq_false hv2.2.1, Bool.not_false, Bool.true_and, if_true]
      by_cases hr : restL l = []
      · simp only [hr, List.length_nil, show (((0 : Nat) : Int) == 0) = true from rfl, cond_true, if_true]
      · have hr2 : (((restL l).length : Int) == 0) = false := by
          rw [beq_eq_false_iff_ne]
          have := List.length_pos_iff.2 hr
          omega
        simp only [hr2, cond_false, if_neg hr]
        exact whole_text hv2.1 (by omega) hr16 (rest_one h)
    | false =>
      simp only [cond_false, Option.bind_some, nil_beq, show decide ((⟨#[]⟩ : ByteArray).size = 0) = true from rfl, Bool.not_true, Bool.false_and, Bool.false_eq_true, if_false]
      exact whole_text (v := ⟨#[]⟩) (by show 0 ≤ 256; omega) (by omega) h16 (right_parts h).2
  · rw [if_neg h]
    rw [show ((rightE l).1 != 0) = true from by rw [bne_iff_ne]; exact h]; rfl
/-! ### the document's -/
end Go.Proofs.YtnlkfajnaelnnaaGreatDoor

/- Plain laws: label sets compared. -/
set_option linter.unusedVariables false
set_option linter.unusedSimpArgs false
set_option maxRecDepth 100000
namespace Go.Proofs.YtnlkfajnaelnnaaGreatDoor
open Go.GB Go.Lib
end Go.Proofs.YtnlkfajnaelnnaaGreatDoor

/- Plain laws: numbers and texts in bytes: the program's are the document's. -/
set_option linter.unusedVariables false
set_option linter.unusedSimpArgs false
set_option maxRecDepth 100000
namespace Go.Proofs.YtnlkfajnaelnnaaGreatDoor
open Go.GB Go.Lib
theorem joined_eq {a b : List Int} (h : a.length + b.length ≤ 2147483648) : vint_joined a b = some (a ++ b) := by
  unfold vint_joined
  have e : mkrow (0 : Int) 0 (IntKind.wrap .i64 ((a.length : Int) + (b.length : Int))) = some [] := by
    unfold mkrow
    rw [wrap64 (by omega) (by omega), if_pos ⟨by omega, by omega, by omega⟩]; rfl
  rw [e]
  simp only [Option.bind_some]
  rw [app_eq (by simp; omega)]
  simp only [Option.bind_some, List.nil_append]
  rw [app_eq h]; rfl
theorem PutU_eq {a : List Int} {n : Nat} (hn : n < 18446744073709551616) (h : a.length + 10 ≤ 2147483648) : vint_PutU a (n : Int) = some (a ++ uv n) := by
  unfold vint_PutU
  obtain ⟨m, acc, h1, h2, h3, h4⟩ := putu_loop (body := vint_PutU_l28) (fun n acc hn => by
    unfold vint_PutU_l28
    by_cases hlt : n < 128
    · rw [if_pos hlt, show decide ((((n : Nat) : Int), acc).1 ≥ 128) = false from decide_eq_false (by show ¬ ((n : Int) ≥ 128); omega)]; rfl
    · rw [if_neg hlt, show decide ((((n : Nat) : Int), acc).1 ≥ 128) = true from decide_eq_true (by show (n : Int) ≥ 128; omega)]
      have e1 : bitOr .u8 (IntKind.wrap .u8 (n : Int)) 128 = ((n % 128 + 128 : Nat) : Int) := by
        have := fin_and (P := fun c => bitOr .u8 ((c : Nat) : Int) 128 = ((c % 128 + 128 : Nat) : Int)) or128 (n := n % 256) (by omega)
        rw [wrapU8_eq, show (n : Int) % 256 = ((n % 256 : Nat) : Int) by omega, this]; omega
      have e2 : shr .u64 (n : Int) 7 = ((n / 128 : Nat) : Int) := shr_nat .u64 n 7 (by decide)
      simp only [cond_true, e1, e2]) 10 n [] (by omega) hn (by simp) (by omega)
  rw [show ((n : Int), ([] : List Int)) = ((n : Int), []) from rfl, h2]
  simp only [Option.bind_some]
  rw [wrapU8 (by omega) (by omega), app_eq (by simp at h4 ⊢; omega), h3]
  simp only [Option.bind_some, List.nil_append]
  rw [joined_eq (by have := uv_len n; unfold uv at this; omega)]
  rfl
theorem PutText_eq {a : List Int} {s : ByteArray} (h : a.length + 10 + s.size ≤ 2147483648) : vint_PutText a s = some (a ++ uv s.size ++ bytesOf s) := by
  unfold vint_PutText
  rw [wrapU64 (by omega) (by omega), PutU_eq (by omega) (by omega)]
  simp only [Option.bind_some]
  rw [sb_eq (by omega)]
  simp only [Option.bind_some]
  rw [joined_eq (by have := uv_len s.size; simp [bytesOf_length]; omega)]
  rfl
theorem lx_eq {α : Type} {xs : List α} {l r : Nat} (h1 : l ≤ r) (h2 : r ≤ xs.length) : lx xs (l : Int) (r : Int) = some ((xs.take r).drop l) := by
  unfold lx
  rw [if_pos ⟨by omega, by omega, by omega⟩, Int.toNat_natCast, Int.toNat_natCast]
end Go.Proofs.YtnlkfajnaelnnaaGreatDoor

/- Plain laws: what is written in few bytes is read back. -/
set_option linter.unusedVariables false
set_option linter.unusedSimpArgs false
set_option maxRecDepth 100000
namespace Go.Proofs.YtnlkfajnaelnnaaGreatDoor
open Go.GB Go.Lib
/-- A number that was written is read. -/
theorem u_back {b : List Int} (hl : b.length ≤ 2147483648) {p : Nat} : ∀ (f i m acc : Nat), m < 128 ^ f → 0 < f → i + f ≤ 10 → acc < 2 ^ (7 * i) → acc + m * 2 ^ (7 * i) < 18446744073709551616 → (0 < i → 0 < m) →
    (∀ j x, (uvF f m)[j]? = some x → b[p + i + j]? = some x) →
    loopO (vint_U_l24 b (p : Int)) ((acc : Int), (i : Int)) = some (.inr (((acc + m * 2 ^ (7 * i) : Nat) : Int), ((p + i + (uvF f m).length : Nat) : Int), 0)) := by
  intro f
  induction f with
  | zero => intro i m acc _ h0; omega
  | succ f ih =>
    intro i m acc hm _ hif hacc hlt hpos hat
    have hi : i ≤ 9 := by omega
    have h0 : b[p + i]? = some (if m < 128 then (m : Int) else ((m % 128 + 128 : Nat) : Int)) := by
      have := hat 0 (if m < 128 then (m : Int) else ((m % 128 + 128 : Nat) : Int)) (by unfold uvF; split <;> rfl)
      simpa using this
    have hpl := (List.getElem?_eq_some_iff.1 h0).1
    have w1 : IntKind.wrap .i64 ((p : Int) + (i : Int)) = ((p + i : Nat) : Int) := by rw [wrap64 (by omega) (by omega)]; omega
    have w3 : IntKind.wrap .i64 (7 * (i : Int)) = ((7 * i : Nat) : Int) := by rw [wrap64 (by omega) (by omega)]; omega
    have w5 : IntKind.wrap .i64 (((p + i : Nat) : Int) + 1) = ((p + i + 1 : Nat) : Int) := by rw [wrap64 (by omega) (by omega)]; omega
    have w6 : IntKind.wrap .i64 ((i : Int) + 1) = ((i + 1 : Nat) : Int) := wrap_up (by omega)
    have d1 : decide (((p + i : Nat) : Int) ≥ (b.length : Int)) = false := decide_eq_false (by omega)
    have hx : ix b ((p + i : Nat) : Int) = some (if m < 128 then (m : Int) else ((m % 128 + 128 : Nat) : Int)) := by rw [ix_nat, h0]
    obtain ⟨P, hP⟩ : ∃ P, 2 ^ (7 * i) = P := ⟨_, rfl⟩
    have hPpos : 0 < P := by rw [← hP]; exact Nat.two_pow_pos _
    have hmod : m % 128 * P ≤ m * P := Nat.mul_le_mul_right _ (Nat.mod_le _ _)
    have q1 : shlx .u64 (IntKind.wrap .u64 ((m % 128 : Nat) : Int)) ((7 * i : Nat) : Int) = some (((m % 128 * P : Nat) : Int)) := by
      unfold shlx
      rw [if_pos (by omega), wrapU64 (by omega) (by omega), shl_nat (by omega) (by rw [hP]; rw [hP] at hlt; omega), hP]
    have q2 : bitOr .u64 (acc : Int) ((m % 128 * P : Nat) : Int) = ((acc + m % 128 * P : Nat) : Int) := by
      rw [← hP]; exact bitOr_add hacc (by rw [hP]; rw [hP] at hlt; omega)
    by_cases hs : m < 128
    · rw [if_pos hs] at hx
      have a1 : bitAnd .u8 (m : Int) 127 = ((m % 128 : Nat) : Int) := fin_and (P := fun n => bitAnd .u8 ((n : Nat) : Int) 127 = ((n % 128 : Nat) : Int)) and127 (by omega)
      have h9 : (((i : Int) == 9) && decide ((m : Int) > 1)) = false := by
        rw [Bool.eq_false_iff]
        simp only [ne_eq, Bool.and_eq_true, beq_iff_eq, decide_eq_true_eq]
        rintro ⟨hi9, hm1⟩
        have : i = 9 := by omega
        subst this
        have : 2 * 2 ^ 63 ≤ m * 2 ^ (7 * 9) := Nat.mul_le_mul (by omega) (by decide)
        omega
      have hz : ((true && ((m : Int) == 0)) && decide ((i : Int) > 0)) = false := by
        rw [Bool.eq_false_iff]
        simp only [ne_eq, Bool.and_eq_true, beq_iff_eq, decide_eq_true_eq]
        rintro ⟨⟨_, hm0⟩, hi0⟩
        have := hpos (by omega); omega
      have hbody : vint_U_l24 b (p : Int) ((acc : Int), (i : Int)) = some (.inr (.inr (((acc + m * 2 ^ (7 * i) : Nat) : Int), ((p + i + 1 : Nat) : Int), 0))) := by
        unfold vint_U_l24
        simp only [w1, w3, w5, d1, cond_false, hx, Option.bind_some, h9, hz, a1, q1, q2, show decide ((m : Int) < 128) = true from decide_eq_true (by omega), cond_true]
        rw [Nat.mod_eq_of_lt hs, hP]
      rw [loopO_done hbody]
      have : (uvF (f + 1) m).length = 1 := by unfold uvF; rw [if_pos hs]; rfl
      rw [this]
    · rw [if_neg hs] at hx
      have a1 : bitAnd .u8 ((m % 128 + 128 : Nat) : Int) 127 = ((m % 128 : Nat) : Int) := by
        have := fin_and (P := fun n => bitAnd .u8 ((n : Nat) : Int) 127 = ((n % 128 : Nat) : Int)) and127 (n := m % 128 + 128) (by omega)
        rw [this]; omega
      have hi9 : i ≠ 9 := by
        rintro rfl
        have : 128 * 2 ^ 63 ≤ m * 2 ^ (7 * 9) := Nat.mul_le_mul (by omega) (by decide)
        omega
      have h9 : (((i : Int) == 9) && decide (((m % 128 + 128 : Nat) : Int) > 1)) = false := by
        rw [show ((i : Int) == 9) = false by rw [beq_eq_false_iff_ne]; omega]; rfl
      have d3 : decide (((m % 128 + 128 : Nat) : Int) < 128) = false := decide_eq_false (by omega)
      have hbody : vint_U_l24 b (p : Int) ((acc : Int), (i : Int)) = some (.inl (((acc + m % 128 * P : Nat) : Int), ((i + 1 : Nat) : Int))) := by
        unfold vint_U_l24
        simp only [w1, w3, w5, w6, d1, cond_false, hx, Option.bind_some, h9, a1, q1, q2, d3, Bool.false_and]
      rw [loopO_step hbody]
      have hf : 0 < f := by
        rcases Nat.eq_zero_or_pos f with rfl | h
        · simp at hm; omega
        · exact h
      have hP2 : 2 ^ (7 * (i + 1)) = 128 * P := by rw [show 7 * (i + 1) = 7 * i + 7 by omega, Nat.pow_add, hP]; omega
      have hdm : m % 128 * P + m / 128 * (128 * P) = m * P := by
        rw [← Nat.mul_assoc, ← Nat.add_mul]; congr 1; omega
      have hlen : (uvF (f + 1) m).length = (uvF f (m / 128)).length + 1 := by
        have : uvF (f + 1) m = ((m % 128 + 128 : Nat) : Int) :: uvF f (m / 128) := by
          conv => lhs; unfold uvF
          exact if_neg hs
        rw [this]; rfl
      have := ih (i + 1) (m / 128) (acc + m % 128 * P) (by rw [Nat.pow_succ] at hm; omega) hf (by omega) (by
        rw [hP2]
        have h7 : m % 128 * P ≤ 127 * P := Nat.mul_le_mul_right _ (by omega)
        rw [hP] at hacc
        omega) (by rw [hP2]; rw [hP] at hlt; omega) (fun _ => by omega) (fun j x hj => by
          have := hat (j + 1) x (by unfold uvF; rw [if_neg hs]; simpa using hj)
          rw [show p + (i + 1) + j = p + i + (j + 1) by omega]; exact this)
      rw [this, hP2, hlen]
      rw [hP]
      have e1 : acc + m % 128 * P + m / 128 * (128 * P) = acc + m * P := by omega
      rw [e1]
      have e2 : p + (i + 1) + (uvF f (m / 128)).length = p + i + ((uvF f (m / 128)).length + 1) := by omega
      rw [e2]
theorem get_mid {α : Type} {pre xs post : List α} {j : Nat} {x : α} (h : xs[j]? = some x) : (pre ++ xs ++ post)[pre.length + j]? = some x := by
  have := (List.getElem?_eq_some_iff.1 h).1
  rw [List.append_assoc, List.getElem?_append_right (by omega), show pre.length + j - pre.length = j by omega, List.getElem?_append_left this]
  exact h
theorem U_back {pre post : List Int} {n : Nat} (hn : n < 18446744073709551616) (hl : (pre ++ uv n ++ post).length ≤ 2147483648) :
    vint_U (pre ++ uv n ++ post) (pre.length : Int) = some ((n : Int), ((pre.length + (uv n).length : Nat) : Int), 0) := by
  unfold vint_U
  have : ((decide ((pre.length : Int) < 0)) || (decide ((pre.length : Int) > ((pre ++ uv n ++ post).length : Int)))) = false := by
    rw [Bool.eq_false_iff]; simp only [ne_eq, Bool.or_eq_true, decide_eq_true_eq, List.length_append]; omega
  rw [this]
  simp only [cond_false]
  have h := u_back (b := pre ++ uv n ++ post) hl (p := pre.length) 10 0 n 0 (by omega) (by omega) (by omega) (by omega) (by simpa using hn) (by omega) (fun j x hj => by rw [Nat.add_zero]; exact get_mid hj)
  rw [show ((0 : Nat) : Int) = 0 from rfl] at h
  rw [h]
  simp [uv]
/-- A text that was written is read. -/
theorem Text_back {pre post : List Int} {s : ByteArray} {most : Nat} (hs : s.size ≤ most) (hm : most < 4611686018427387904) (hv : validD s.data.toList = true) (hl : (pre ++ (uv s.size ++ bytesOf s) ++ post).length ≤ 2147483648) :
    vint_Text (pre ++ (uv s.size ++ bytesOf s) ++ post) (pre.length : Int) (most : Int) = some (s, ((pre.length + (uv s.size ++ bytesOf s).length : Nat) : Int), 0) := by
  have hlen : (pre ++ (uv s.size ++ bytesOf s) ++ post).length = pre.length + (uv s.size).length + s.size + post.length := by simp [bytesOf_length]; omega
  have hsl : (uv s.size ++ bytesOf s).length = (uv s.size).length + s.size := by simp [bytesOf_length]
  unfold vint_Text
  have : (((decide ((pre.length : Int) < 0)) || (decide ((pre.length : Int) > ((pre ++ (uv s.size ++ bytesOf s) ++ post).length : Int)))) || (decide ((most : Int) < 0))) = false := by
    rw [Bool.eq_false_iff]; simp only [ne_eq, Bool.or_eq_true, decide_eq_true_eq]; omega
  rw [this]
  simp only [cond_false]
  have hU := U_back (pre := pre) (n := s.size) (post := bytesOf s ++ post) (by omega) (by rw [← List.append_assoc, List.append_assoc pre]; exact hl)
  have ea : pre ++ uv s.size ++ (bytesOf s ++ post) = pre ++ (uv s.size ++ bytesOf s) ++ post := by simp
  rw [ea] at hU
  rw [hU]
  simp only [Option.bind_some, show ((0 : Int) != 0) = false from rfl, cond_false]
  rw [wrapU64 (x := (most : Int)) (by omega) (by omega), show decide ((s.size : Int) > (most : Int)) = false from decide_eq_false (by omega)]
  rw [wrap64 (x := ((pre ++ (uv s.size ++ bytesOf s) ++ post).length : Int) - _) (by omega) (by omega), wrapU64 (by omega) (by omega), show decide ((s.size : Int) > ((pre ++ (uv s.size ++ bytesOf s) ++ post).length : Int) - ((pre.length + (uv s.size).length : Nat) : Int)) = false from decide_eq_false (by omega)]
  simp only [cond_false]
  rw [wrap64 (x := (s.size : Int)) (by omega) (by omega), wrap64 (x := ((pre.length + (uv s.size).length : Nat) : Int) + (s.size : Int)) (by omega) (by omega)]
  rw [show ((pre.length + (uv s.size).length : Nat) : Int) + (s.size : Int) = ((pre.length + (uv s.size).length + s.size : Nat) : Int) by omega]
  rw [lx_eq (by omega) (by omega)]
  simp only [Option.bind_some]
  have hx : ((pre ++ (uv s.size ++ bytesOf s) ++ post).take (pre.length + (uv s.size).length + s.size)).drop (pre.length + (uv s.size).length) = bytesOf s := by
    have e : pre ++ (uv s.size ++ bytesOf s) ++ post = (pre ++ uv s.size ++ bytesOf s) ++ post := by simp
    rw [e, List.take_left' (by simp [bytesOf_length]; omega), List.drop_left' (by simp)]
  rw [hx, ofBytes_bytesOf, valid_eq (by omega)]
  simp only [Option.bind_some, hv, Bool.not_true, cond_false]
  rw [hsl, Nat.add_assoc]
end Go.Proofs.YtnlkfajnaelnnaaGreatDoor

/- Plain laws: label sets in bytes. -/
set_option linter.unusedVariables false
set_option linter.unusedSimpArgs false
set_option maxRecDepth 100000
namespace Go.Proofs.YtnlkfajnaelnnaaGreatDoor
open Go.GB Go.Lib
def encLab (x : S49) : List Int := (uv x.f0.size ++ bytesOf x.f0) ++ (uv x.f1.size ++ bytesOf x.f1)
def encLabs (l : List S49) : List Int := l.flatMap encLab
def encL (l : List S49) : List Int := uv l.length ++ encLabs l
theorem encLab_len {x : S49} (h : oneE x = 0) : (encLab x).length ≤ 340 := by
  obtain ⟨h1, _, h2, _⟩ := one_parts h
  have h3 := (named_valid h1).1
  have := uv_len x.f0.size
  have := uv_len x.f1.size
  simp [encLab, bytesOf_length]
  omega
theorem encLabs_len : ∀ {l : List S49}, (∀ x ∈ l, oneE x = 0) → (encLabs l).length ≤ 340 * l.length
  | [], _ => by simp [encLabs]
  | x :: r, h => by
    have h1 := encLab_len (h x (by simp))
    have h2 := encLabs_len (l := r) (fun y hy => h y (by simp [hy]))
    unfold encLabs at h2 ⊢
    simp only [List.flatMap_cons, List.length_append, List.length_cons]
    omega
theorem encL_len {l : List S49} (h : (rightE l).1 = 0) : (encL l).length ≤ 5450 := by
  obtain ⟨h1, h2⟩ := right_parts h
  have := encLabs_len h2
  have := uv_len l.length
  simp only [encL, List.length_append]
  omega
theorem encLabs_take {l : List S49} {i : Nat} (hi : i < l.length) : encLabs (l.take (i + 1)) = encLabs (l.take i) ++ encLab l[i] := by
  unfold encLabs
  rw [List.take_add_one, List.getElem?_eq_getElem hi]
  simp only [Option.toList_some, List.flatMap_append, List.flatMap_cons, List.flatMap_nil, List.append_nil]
theorem Put_eq {a : List Int} {l : List S49} (ha : a.length ≤ 2147470000) : labels_Put a l = some (if (rightE l).1 = 0 then a ++ encL l else [], (rightE l).1) := by
  unfold labels_Put labels_right
  rw [Right_eq]
  simp only [Option.bind_some]
  by_cases h : (rightE l).1 = 0
  · obtain ⟨h1, h2⟩ := right_parts h
    rw [if_pos h, show ((rightE l).1 != 0) = false by simp [h]]
    simp only [cond_false]
    rw [wrapU64 (by omega) (by omega), PutU_eq (by omega) (by omega)]
    simp only [Option.bind_some]
    have hl := uv_len l.length
    have hloop := up_inv (body := labels_Put_l40 l) (fun i => (a ++ uv l.length ++ encLabs (l.take i), (i : Int))) (n := l.length) (r := a ++ uv l.length ++ encLabs l) (fun i hi => by
      unfold labels_Put_l40
      have hx : ix l (i : Int) = some l[i] := by rw [ix_nat, List.getElem?_eq_getElem hi]
      have h3 := encLabs_len (l := l.take i) (fun x hx => h2 x (List.mem_of_mem_take hx))
      have h4 := h2 l[i] (List.getElem_mem hi)
      obtain ⟨k1, _, k2, _⟩ := one_parts h4
      have k3 := (named_valid k1).1
      have k4 := uv_len l[i].f0.size
      have hti : (l.take i).length ≤ 16 := by rw [List.length_take]; omega
      rw [show decide ((a ++ uv l.length ++ encLabs (l.take i), (i : Int)).2 < (l.length : Int)) = true from decide_eq_true (by show (i : Int) < _; omega)]
      simp only [cond_true, hx, Option.bind_some]
      rw [PutText_eq (by simp only [List.length_append]; omega)]
      simp only [Option.bind_some]
      rw [PutText_eq (by simp only [List.length_append, bytesOf_length]; omega)]
      simp only [Option.bind_some, wrap_up (show i < 4294967296 by omega)]
      rw [encLabs_take hi]
      simp [encLab]) (by
      unfold labels_Put_l40
      rw [show decide ((a ++ uv l.length ++ encLabs (l.take l.length), (l.length : Int)).2 < (l.length : Int)) = false from decide_eq_false (by show ¬ ((l.length : Int) < _); omega)]
      rw [List.take_length]; rfl) 0 (Nat.zero_le _)
    simp only [List.take_zero, encLabs, List.flatMap_nil, List.append_nil, Int.ofNat_zero, Int.natCast_zero] at hloop
    rw [hloop]
    simp [h, encL, encLabs]
  · rw [if_neg h, show ((rightE l).1 != 0) = true by simpa using h]
    rfl
theorem Read_back {pre post : List Int} {l : List S49} (h : (rightE l).1 = 0) (hl : (pre ++ encL l ++ post).length ≤ 2147483648) :
    labels_Read (pre ++ encL l ++ post) (pre.length : Int) = some (l, ((pre.length + (encL l).length : Nat) : Int), 0) := by
  obtain ⟨h1, h2⟩ := right_parts h
  unfold labels_Read
  have eb : pre ++ encL l ++ post = pre ++ uv l.length ++ (encLabs l ++ post) := by simp [encL]
  have hU := U_back (pre := pre) (n := l.length) (post := encLabs l ++ post) (by omega) (by rw [← eb]; exact hl)
  rw [← eb] at hU
  rw [hU]
  simp only [Option.bind_some, show ((0 : Int) != 0) = false from rfl, cond_false, show decide ((l.length : Int) > 16) = false from decide_eq_false (by omega)]
  have hloop := up_inv (body := labels_Read_l33 (pre ++ encL l ++ post) ((l.length : Int), ((pre.length + (uv l.length).length : Nat) : Int), 0)) (fun i => (((pre.length + (uv l.length).length + (encLabs (l.take i)).length : Nat) : Int), l.take i, (i : Int))) (n := l.length) (r := .inl (((pre.length + (uv l.length).length + (encLabs l).length : Nat) : Int), l)) (fun i hi => by
    unfold labels_Read_l33
    have h4 := h2 l[i] (List.getElem_mem hi)
    obtain ⟨k1, _, k2, k3⟩ := one_parts h4
    obtain ⟨k4, _, k5⟩ := named_valid k1
    obtain ⟨rest, hrest⟩ : ∃ rest, encLabs l = encLabs (l.take i) ++ encLab l[i] ++ rest := by
      refine ⟨encLabs (l.drop (i + 1)), ?_⟩
      rw [← encLabs_take hi]
      unfold encLabs
      rw [← List.flatMap_append, List.take_append_drop]
    have e1 : pre ++ encL l ++ post = (pre ++ uv l.length ++ encLabs (l.take i)) ++ (uv l[i].f0.size ++ bytesOf l[i].f0) ++ ((uv l[i].f1.size ++ bytesOf l[i].f1) ++ rest ++ post) := by
      rw [eb, hrest]; simp [encLab]
    have e2 : pre ++ encL l ++ post = (pre ++ uv l.length ++ encLabs (l.take i) ++ (uv l[i].f0.size ++ bytesOf l[i].f0)) ++ (uv l[i].f1.size ++ bytesOf l[i].f1) ++ (rest ++ post) := by
      rw [eb, hrest]; simp [encLab]
    have t1 := Text_back (pre := pre ++ uv l.length ++ encLabs (l.take i)) (post := (uv l[i].f1.size ++ bytesOf l[i].f1) ++ rest ++ post) (s := l[i].f0) (most := 64) k4 (by omega) k5 (by rw [← e1]; exact hl)
    have t2 := Text_back (pre := pre ++ uv l.length ++ encLabs (l.take i) ++ (uv l[i].f0.size ++ bytesOf l[i].f0)) (post := rest ++ post) (s := l[i].f1) (most := 256) k2 (by omega) k3 (by rw [← e2]; exact hl)
    rw [← e1] at t1
    rw [← e2] at t2
    rw [show ((pre ++ uv l.length ++ encLabs (l.take i)).length : Nat) = pre.length + (uv l.length).length + (encLabs (l.take i)).length by simp; omega] at t1
    rw [show ((pre ++ uv l.length ++ encLabs (l.take i) ++ (uv l[i].f0.size ++ bytesOf l[i].f0)).length : Nat) = pre.length + (uv l.length).length + (encLabs (l.take i)).length + (uv l[i].f0.size ++ bytesOf l[i].f0).length by simp; omega] at t2
    simp only [show decide ((i : Int) < (l.length : Int)) = true from decide_eq_true (by omega), cond_true]
    rw [show (64 : Int) = ((64 : Nat) : Int) from rfl, t1]
    simp only [Option.bind_some, show ((0 : Int) != 0) = false from rfl, cond_false]
    rw [show (256 : Int) = ((256 : Nat) : Int) from rfl, t2]
    simp only [Option.bind_some, show ((0 : Int) != 0) = false from rfl, cond_false]
    rw [app_eq (by simp; omega)]
    simp only [Option.bind_some]
    rw [wrapU64 (by omega) (by omega), encLabs_take hi, List.take_add_one, List.getElem?_eq_getElem hi]
    simp only [List.length_append, encLab, Option.toList_some]
    congr 4
    omega) (by
    unfold labels_Read_l33
    simp only [show decide ((l.length : Int) < (l.length : Int)) = false from decide_eq_false (by omega), cond_false, List.take_length]) 0 (Nat.zero_le _)
  simp only [List.take_zero, encLabs, List.flatMap_nil, List.length_nil, Nat.add_zero, Int.natCast_zero] at hloop
  rw [hloop]
  simp only [Option.bind_some, labels_right, Right_eq, h, show ((0 : Int) != 0) = false from rfl, cond_false]
  congr 3
  simp [encL, encLabs]
  omega
end Go.Proofs.YtnlkfajnaelnnaaGreatDoor

set_option linter.unusedVariables false
set_option linter.unusedSimpArgs false
set_option maxRecDepth 100000
namespace Go.Proofs.YtnlkfajnaelnnaaGreatDoor
open Go.GB
noncomputable def labels_named_l33_c (a2 : Bool) (l11 : List Int) : Int → Option ((Int) ⊕ ((Unit) ⊕ (Bool))) := fun s23 =>
  bif (decide (s23 < (l11.length : Int))) then
  (Option.bind (ix l11 s23) fun (x36 : Int) =>
    bif (((!(labels_letter x36)) && (!(labels_digit x36))) && (!(a2 && (x36 == 58)))) then
    (some (Sum.inr (Sum.inr false)))
    else
    (some (Sum.inl (IntKind.wrap .i64 (s23 + 1)))))
  else
  (some (Sum.inr (Sum.inl ())))
theorem labels_named_l33_ev (a2 : Bool) (l11 : List Int) (s23 : Int) : OLe (labels_named_l33_c a2 l11 s23) (labels_named_l33 a2 l11 s23) := by
  unfold labels_named_l33_c labels_named_l33
  exact (OLe.cond (OLe.bind (OLe.refl _) (fun _ => (OLe.cond (OLe.refl _) (OLe.refl _)))) (OLe.refl _))
noncomputable def labels_named_c (a0 : ByteArray) (a1 : Int) (a2 : Bool) : Option Bool :=
  Option.bind (bif (a0.toList == (⟨#[]⟩ : ByteArray).toList) then
    (some true)
    else
    (bif (decide ((a0.size : Int) > a1)) then
      (some true)
      else
      (Option.bind (bx a0 0) fun (c8 : Int) =>
        some (labels_digit c8)))) fun (j1 : Bool) =>
  bif j1 then
  (some false)
  else
  (Option.bind (sb a0) fun (l11 : List Int) =>
    Option.bind (loopF 1000000 (labels_named_l33_c a2 l11) 0) fun (r21 : (Unit) ⊕ (Bool)) =>
    match r21 with
    | Sum.inl r29 => some true
    | Sum.inr v54 => some v54)
theorem labels_named_ev (a0 : ByteArray) (a1 : Int) (a2 : Bool) : OLe (labels_named_c a0 a1 a2) (labels_named a0 a1 a2) := by
  unfold labels_named_c labels_named
  exact (OLe.bind (OLe.cond (OLe.refl _) (OLe.cond (OLe.refl _) (OLe.bind (OLe.refl _) (fun _ => (OLe.refl _))))) (fun _ => (OLe.cond (OLe.refl _) (OLe.bind (OLe.refl _) (fun _ => (OLe.bind (OLe.loop (fun _ => labels_named_l33_ev _ _ _)) (fun j => by cases j with | inl a => exact (OLe.refl _) | inr b => exact (OLe.refl _))))))))
noncomputable def labels_Name_c (a0 : ByteArray) : Option Bool :=
  Option.bind (labels_named_c a0 64 false) fun (y1 : Bool) =>
  some y1
theorem labels_Name_ev (a0 : ByteArray) : OLe (labels_Name_c a0) (labels_Name a0) := by
  unfold labels_Name_c labels_Name
  exact (OLe.bind (labels_named_ev _ _ _) (fun _ => (OLe.refl _)))
noncomputable def utf8_ValidString_c (a0 : ByteArray) : Option Bool := utf8_ValidString a0
theorem utf8_ValidString_ev (a0 : ByteArray) : OLe (utf8_ValidString_c a0) (utf8_ValidString a0) := OLe.refl _
noncomputable def labels_value_c (a0 : ByteArray) : Option Int :=
  bif (a0.toList == (⟨#[]⟩ : ByteArray).toList) then
  (some 41)
  else
  (bif (decide ((a0.size : Int) > 256)) then
    (some 4)
    else
    (Option.bind (utf8_ValidString_c a0) fun (y3 : Bool) =>
      bif (!y3) then
      (some 12)
      else
      (some 0)))
theorem labels_value_ev (a0 : ByteArray) : OLe (labels_value_c a0) (labels_value a0) := by
  unfold labels_value_c labels_value
  exact (OLe.cond (OLe.refl _) (OLe.cond (OLe.refl _) (OLe.bind (utf8_ValidString_ev _) (fun _ => (OLe.cond (OLe.refl _) (OLe.refl _))))))
noncomputable def labels_Right_l18_c (a0 : List S49) : Int → Option ((Int) ⊕ ((Unit) ⊕ (Int × Int))) := fun s8 =>
  bif (decide (s8 < (a0.length : Int))) then
  (Option.bind (ix a0 s8) fun (x21 : S49) =>
    Option.bind (labels_Name_c x21.f0) fun (y30 : Bool) =>
    bif (!y30) then
    (some (Sum.inr (Sum.inr (40, s8))))
    else
    (Option.bind (labels_value_c x21.f1) fun (y33 : Int) =>
      bif (y33 != 0) then
      (some (Sum.inr (Sum.inr (y33, s8))))
      else
      (Option.bind (bif (decide (s8 > 0)) then
          (Option.bind (ix a0 (IntKind.wrap .i64 (s8 - 1))) fun (x42 : S49) =>
            some ((Op.bytesLess x21.f0.toList x42.f0.toList) || (x21.f0.toList == x42.f0.toList)))
          else
          (some false)) fun (j36 : Bool) =>
        bif j36 then
        (some (Sum.inr (Sum.inr (3, s8))))
        else
        (some (Sum.inl (IntKind.wrap .i64 (s8 + 1)))))))
  else
  (some (Sum.inr (Sum.inl ())))
theorem labels_Right_l18_ev (a0 : List S49) (s8 : Int) : OLe (labels_Right_l18_c a0 s8) (labels_Right_l18 a0 s8) := by
  unfold labels_Right_l18_c labels_Right_l18
  exact (OLe.cond (OLe.bind (OLe.refl _) (fun _ => (OLe.bind (labels_Name_ev _) (fun _ => (OLe.cond (OLe.refl _) (OLe.bind (labels_value_ev _) (fun _ => (OLe.cond (OLe.refl _) (OLe.bind (OLe.cond (OLe.bind (OLe.refl _) (fun _ => (OLe.refl _))) (OLe.refl _)) (fun _ => (OLe.cond (OLe.refl _) (OLe.refl _)))))))))))) (OLe.refl _))
noncomputable def labels_Right_c (a0 : List S49) : Option (Int × Int) :=
  bif (decide ((a0.length : Int) > 16)) then
  (some (8, 0))
  else
  (Option.bind (loopF 1000000 (labels_Right_l18_c a0) 0) fun (r6 : (Unit) ⊕ (Int × Int)) =>
    match r6 with
    | Sum.inl r14 => some (0, 0)
    | Sum.inr v51 => some v51)
theorem labels_Right_ev (a0 : List S49) : OLe (labels_Right_c a0) (labels_Right a0) := by
  unfold labels_Right_c labels_Right
  exact (OLe.cond (OLe.refl _) (OLe.bind (OLe.loop (fun _ => labels_Right_l18_ev _ _)) (fun j => by cases j with | inl a => exact (OLe.refl _) | inr b => exact (OLe.refl _))))
noncomputable def labels_right_c (a0 : List S49) : Option Int :=
  Option.bind (labels_Right_c a0) fun (y1 : Int × Int) =>
  some y1.1
theorem labels_right_ev (a0 : List S49) : OLe (labels_right_c a0) (labels_right a0) := by
  unfold labels_right_c labels_right
  exact (OLe.bind (labels_Right_ev _) (fun _ => (OLe.refl _)))
noncomputable def labels_Get_l17_c (a0 : List S49) (a1 : ByteArray) : Int → Option ((Int) ⊕ ((Unit) ⊕ (ByteArray))) := fun s7 =>
  bif (decide (s7 < (a0.length : Int))) then
  (Option.bind (ix a0 s7) fun (x20 : S49) =>
    bif (x20.f0.toList == a1.toList) then
    (some (Sum.inr (Sum.inr x20.f1)))
    else
    (some (Sum.inl (IntKind.wrap .i64 (s7 + 1)))))
  else
  (some (Sum.inr (Sum.inl ())))
theorem labels_Get_l17_ev (a0 : List S49) (a1 : ByteArray) (s7 : Int) : OLe (labels_Get_l17_c a0 a1 s7) (labels_Get_l17 a0 a1 s7) := by
  unfold labels_Get_l17_c labels_Get_l17
  exact (OLe.cond (OLe.bind (OLe.refl _) (fun _ => (OLe.cond (OLe.refl _) (OLe.refl _)))) (OLe.refl _))
noncomputable def labels_Get_c (a0 : List S49) (a1 : ByteArray) : Option ByteArray :=
  Option.bind (loopF 1000000 (labels_Get_l17_c a0 a1) 0) fun (r5 : (Unit) ⊕ (ByteArray)) =>
  match r5 with
  | Sum.inl r13 => some (⟨#[]⟩ : ByteArray)
  | Sum.inr v30 => some v30
theorem labels_Get_ev (a0 : List S49) (a1 : ByteArray) : OLe (labels_Get_c a0 a1) (labels_Get a0 a1) := by
  unfold labels_Get_c labels_Get
  exact (OLe.bind (OLe.loop (fun _ => labels_Get_l17_ev _ _ _)) (fun j => by cases j with | inl a => exact (OLe.refl _) | inr b => exact (OLe.refl _)))
noncomputable def labels_Metric_c (a0 : ByteArray) : Option Bool :=
  Option.bind (labels_named_c a0 256 true) fun (y1 : Bool) =>
  some y1
theorem labels_Metric_ev (a0 : ByteArray) : OLe (labels_Metric_c a0) (labels_Metric a0) := by
  unfold labels_Metric_c labels_Metric
  exact (OLe.bind (labels_named_ev _ _ _) (fun _ => (OLe.refl _)))
noncomputable def slices_Index_l17_c (a0 : List ByteArray) (a1 : ByteArray) : Int → Option ((Int) ⊕ ((Unit) ⊕ (Int))) := fun s7 =>
  bif (decide (s7 < (a0.length : Int))) then
  (Option.bind (ix a0 s7) fun (x20 : ByteArray) =>
    bif (a1.toList == x20.toList) then
    (some (Sum.inr (Sum.inr s7)))
    else
    (some (Sum.inl (IntKind.wrap .i64 (s7 + 1)))))
  else
  (some (Sum.inr (Sum.inl ())))
theorem slices_Index_l17_ev (a0 : List ByteArray) (a1 : ByteArray) (s7 : Int) : OLe (slices_Index_l17_c a0 a1 s7) (slices_Index_l17 a0 a1 s7) := by
  unfold slices_Index_l17_c slices_Index_l17
  exact (OLe.cond (OLe.bind (OLe.refl _) (fun _ => (OLe.cond (OLe.refl _) (OLe.refl _)))) (OLe.refl _))
noncomputable def slices_Index_c (a0 : List ByteArray) (a1 : ByteArray) : Option Int :=
  Option.bind (loopF 1000000 (slices_Index_l17_c a0 a1) 0) fun (r5 : (Unit) ⊕ (Int)) =>
  match r5 with
  | Sum.inl r13 => some (-1)
  | Sum.inr v29 => some v29
theorem slices_Index_ev (a0 : List ByteArray) (a1 : ByteArray) : OLe (slices_Index_c a0 a1) (slices_Index a0 a1) := by
  unfold slices_Index_c slices_Index
  exact (OLe.bind (OLe.loop (fun _ => slices_Index_l17_ev _ _ _)) (fun j => by cases j with | inl a => exact (OLe.refl _) | inr b => exact (OLe.refl _)))
noncomputable def slices_Contains_c (a0 : List ByteArray) (a1 : ByteArray) : Option Bool :=
  Option.bind (slices_Index_c a0 a1) fun (y1 : Int) =>
  some (decide (y1 ≥ 0))
theorem slices_Contains_ev (a0 : List ByteArray) (a1 : ByteArray) : OLe (slices_Contains_c a0 a1) (slices_Contains a0 a1) := by
  unfold slices_Contains_c slices_Contains
  exact (OLe.bind (slices_Index_ev _ _) (fun _ => (OLe.refl _)))
noncomputable def labels_pick_l28_c (a0 : List S49) (a1 : Bool) (a2 : List ByteArray) : ((List S49) × Int) → Option (((List S49) × Int) ⊕ ((List S49))) := fun s11 =>
  bif (decide (s11.2 < (a0.length : Int))) then
  (Option.bind (ix a0 s11.2) fun (x31 : S49) =>
    Option.bind (slices_Contains_c a2 x31.f0) fun (y40 : Bool) =>
    Option.bind (bif (y40 == a1) then
      (Option.bind (app s11.1 [x31]) fun (zs56 : List S49) =>
        some zs56)
      else
      (some s11.1)) fun (j42 : (List S49)) =>
    some (Sum.inl (j42, (IntKind.wrap .i64 (s11.2 + 1)))))
  else
  (some (Sum.inr s11.1))
theorem labels_pick_l28_ev (a0 : List S49) (a1 : Bool) (a2 : List ByteArray) (s11 : (List S49) × Int) : OLe (labels_pick_l28_c a0 a1 a2 s11) (labels_pick_l28 a0 a1 a2 s11) := by
  unfold labels_pick_l28_c labels_pick_l28
  exact (OLe.cond (OLe.bind (OLe.refl _) (fun _ => (OLe.bind (slices_Contains_ev _ _) (fun _ => (OLe.bind (OLe.cond (OLe.bind (OLe.refl _) (fun _ => (OLe.refl _))) (OLe.refl _)) (fun _ => (OLe.refl _))))))) (OLe.refl _))
noncomputable def labels_pick_c (a0 : List S49) (a1 : Bool) (a2 : List ByteArray) : Option (List S49) :=
  Option.bind (loopF 1000000 (labels_pick_l28_c a0 a1 a2) ([], 0)) fun (r9 : (List S49)) =>
  some r9
theorem labels_pick_ev (a0 : List S49) (a1 : Bool) (a2 : List ByteArray) : OLe (labels_pick_c a0 a1 a2) (labels_pick a0 a1 a2) := by
  unfold labels_pick_c labels_pick
  exact (OLe.bind (OLe.loop (fun _ => labels_pick_l28_ev _ _ _ _)) (fun _ => (OLe.refl _)))
noncomputable def labels_quoted_c (a0 : ByteArray) : Option ByteArray := labels_quoted a0
theorem labels_quoted_ev (a0 : ByteArray) : OLe (labels_quoted_c a0) (labels_quoted a0) := OLe.refl _
noncomputable def strings_Join_c (a0 : List ByteArray) (a1 : ByteArray) : Option ByteArray := strings_Join a0 a1
theorem strings_Join_ev (a0 : List ByteArray) (a1 : ByteArray) : OLe (strings_Join_c a0 a1) (strings_Join a0 a1) := OLe.refl _
noncomputable def labels_Print_l72_c (j8 : ByteArray × (List S49)) : ((List ByteArray) × Int) → Option (((List ByteArray) × Int) ⊕ ((List ByteArray))) := fun s55 =>
  bif (decide (s55.2 < (j8.2.length : Int))) then
  (Option.bind (ix j8.2 s55.2) fun (x75 : S49) =>
    Option.bind (sadd x75.f0 (⟨#[61]⟩ : ByteArray)) fun (s84 : ByteArray) =>
    Option.bind (labels_quoted_c x75.f1) fun (y86 : ByteArray) =>
    Option.bind (sadd s84 y86) fun (s88 : ByteArray) =>
    Option.bind (app s55.1 [s88]) fun (zs94 : List ByteArray) =>
    some (Sum.inl (zs94, (IntKind.wrap .i64 (s55.2 + 1)))))
  else
  (some (Sum.inr s55.1))
theorem labels_Print_l72_ev (j8 : ByteArray × (List S49)) (s55 : (List ByteArray) × Int) : OLe (labels_Print_l72_c j8 s55) (labels_Print_l72 j8 s55) := by
  unfold labels_Print_l72_c labels_Print_l72
  exact (OLe.cond (OLe.bind (OLe.refl _) (fun _ => (OLe.bind (OLe.refl _) (fun _ => (OLe.bind (labels_quoted_ev _) (fun _ => (OLe.bind (OLe.refl _) (fun _ => (OLe.bind (OLe.refl _) (fun _ => (OLe.refl _))))))))))) (OLe.refl _))
noncomputable def labels_Print_c (a0 : List S49) : Option (ByteArray × Int) :=
  Option.bind (labels_right_c a0) fun (y1 : Int) =>
  bif (y1 != 0) then
  (some ((⟨#[]⟩ : ByteArray), y1))
  else
  (Option.bind (labels_Get_c a0 (⟨#[95, 95, 110, 97, 109, 101, 95, 95]⟩ : ByteArray)) fun (y4 : ByteArray) =>
    Option.bind (labels_Metric_c y4) fun (y6 : Bool) =>
    Option.bind (bif y6 then
      (Option.bind (labels_pick_c a0 false [(⟨#[95, 95, 110, 97, 109, 101, 95, 95]⟩ : ByteArray)]) fun (y25 : (List S49)) =>
        some (y4, y25))
      else
      (some ((⟨#[]⟩ : ByteArray), a0))) fun (j8 : ByteArray × (List S49)) =>
    bif ((!(j8.1.toList == (⟨#[]⟩ : ByteArray).toList)) && ((j8.2.length : Int) == 0)) then
    (some (j8.1, 0))
    else
    (Option.bind (loopF 1000000 (labels_Print_l72_c j8) ([], 0)) fun (r53 : (List ByteArray)) =>
      Option.bind (sadd j8.1 (⟨#[123]⟩ : ByteArray)) fun (s100 : ByteArray) =>
      Option.bind (strings_Join_c r53 (⟨#[44]⟩ : ByteArray)) fun (y102 : ByteArray) =>
      Option.bind (sadd s100 y102) fun (s104 : ByteArray) =>
      Option.bind (sadd s104 (⟨#[125]⟩ : ByteArray)) fun (s106 : ByteArray) =>
      some (s106, 0)))
theorem labels_Print_ev (a0 : List S49) : OLe (labels_Print_c a0) (labels_Print a0) := by
  unfold labels_Print_c labels_Print
  exact (OLe.bind (labels_right_ev _) (fun _ => (OLe.cond (OLe.refl _) (OLe.bind (labels_Get_ev _ _) (fun _ => (OLe.bind (labels_Metric_ev _) (fun _ => (OLe.bind (OLe.cond (OLe.bind (labels_pick_ev _ _ _) (fun _ => (OLe.refl _))) (OLe.refl _)) (fun _ => (OLe.cond (OLe.refl _) (OLe.bind (OLe.loop (fun _ => labels_Print_l72_ev _ _)) (fun _ => (OLe.bind (OLe.refl _) (fun _ => (OLe.bind (strings_Join_ev _ _) (fun _ => (OLe.bind (OLe.refl _) (fun _ => (OLe.bind (OLe.refl _) (fun _ => (OLe.refl _)))))))))))))))))))))
noncomputable def labels_reader_blanks_l16_c (a0 : S89) : Int → Option ((Int) ⊕ (Int)) := fun s7 =>
  Option.bind (bif (decide (s7 < (a0.f0.size : Int))) then
    (Option.bind (bx a0.f0 s7) fun (c24 : Int) =>
      bif (c24 == 32) then
      (some true)
      else
      (Option.bind (bx a0.f0 s7) fun (c27 : Int) =>
        some (c27 == 9)))
    else
    (some false)) fun (j18 : Bool) =>
  bif j18 then
  (some (Sum.inl (IntKind.wrap .i64 (s7 + 1))))
  else
  (some (Sum.inr s7))
theorem labels_reader_blanks_l16_ev (a0 : S89) (s7 : Int) : OLe (labels_reader_blanks_l16_c a0 s7) (labels_reader_blanks_l16 a0 s7) := by
  unfold labels_reader_blanks_l16_c labels_reader_blanks_l16
  exact (OLe.bind (OLe.cond (OLe.bind (OLe.refl _) (fun _ => (OLe.cond (OLe.refl _) (OLe.bind (OLe.refl _) (fun _ => (OLe.refl _)))))) (OLe.refl _)) (fun _ => (OLe.cond (OLe.refl _) (OLe.refl _))))
noncomputable def labels_reader_blanks_c (a0 : S89) : Option S89 :=
  Option.bind (loopF 1000000 (labels_reader_blanks_l16_c a0) a0.f1) fun (r5 : Int) =>
  some (⟨a0.f0, r5, a0.f2⟩ : S89)
theorem labels_reader_blanks_ev (a0 : S89) : OLe (labels_reader_blanks_c a0) (labels_reader_blanks a0) := by
  unfold labels_reader_blanks_c labels_reader_blanks
  exact (OLe.bind (OLe.loop (fun _ => labels_reader_blanks_l16_ev _ _)) (fun _ => (OLe.refl _)))
noncomputable def labels_reader_fail_c (a0 : S89) (a1 : Int) : Option S89 :=
  Option.bind (bif (decide (a0.f2 < 0)) then
    (some a1)
    else
    (some a0.f2)) fun (j1 : Int) =>
  some (⟨a0.f0, a0.f1, j1⟩ : S89)
theorem labels_reader_fail_ev (a0 : S89) (a1 : Int) : OLe (labels_reader_fail_c a0 a1) (labels_reader_fail a0 a1) := by
  unfold labels_reader_fail_c labels_reader_fail
  exact (OLe.bind (OLe.cond (OLe.refl _) (OLe.refl _)) (fun _ => (OLe.refl _)))
noncomputable def labels_reader_name_l22_c (a1 : Bool) (y2 : S89) : Int → Option ((Int) ⊕ (Int)) := fun s13 =>
  Option.bind (bif (decide (s13 < (y2.f0.size : Int))) then
    (Option.bind (bx y2.f0 s13) fun (c30 : Int) =>
      bif (labels_letter c30) then
      (some true)
      else
      (Option.bind (bx y2.f0 s13) fun (c33 : Int) =>
        bif (labels_digit c33) then
        (some true)
        else
        (bif a1 then
          (Option.bind (bx y2.f0 s13) fun (c37 : Int) =>
            some (c37 == 58))
          else
          (some false))))
    else
    (some false)) fun (j24 : Bool) =>
  bif j24 then
  (some (Sum.inl (IntKind.wrap .i64 (s13 + 1))))
  else
  (some (Sum.inr s13))
theorem labels_reader_name_l22_ev (a1 : Bool) (y2 : S89) (s13 : Int) : OLe (labels_reader_name_l22_c a1 y2 s13) (labels_reader_name_l22 a1 y2 s13) := by
  unfold labels_reader_name_l22_c labels_reader_name_l22
  exact (OLe.bind (OLe.cond (OLe.bind (OLe.refl _) (fun _ => (OLe.cond (OLe.refl _) (OLe.bind (OLe.refl _) (fun _ => (OLe.cond (OLe.refl _) (OLe.cond (OLe.bind (OLe.refl _) (fun _ => (OLe.refl _))) (OLe.refl _)))))))) (OLe.refl _)) (fun _ => (OLe.cond (OLe.refl _) (OLe.refl _))))
noncomputable def labels_reader_name_c (a0 : S89) (a1 : Bool) : Option (ByteArray × S89) :=
  bif (decide (a0.f2 ≥ 0)) then
  (some ((⟨#[]⟩ : ByteArray), a0))
  else
  (Option.bind (labels_reader_blanks_c a0) fun (y2 : S89) =>
    Option.bind (loopF 1000000 (labels_reader_name_l22_c a1 y2) y2.f1) fun (r11 : Int) =>
    Option.bind (sx y2.f0 y2.f1 r11) fun (s41 : ByteArray) =>
    Option.bind (bif a1 then
      (Option.bind (labels_Metric_c s41) fun (y48 : Bool) =>
        bif (!y48) then
        (some true)
        else
        (bif (!a1) then
          (Option.bind (labels_Name_c s41) fun (y52 : Bool) =>
            some (!y52))
          else
          (some false)))
      else
      (bif (!a1) then
        (Option.bind (labels_Name_c s41) fun (y55 : Bool) =>
          some (!y55))
        else
        (some false))) fun (j42 : Bool) =>
    Option.bind (bif j42 then
      (Option.bind (bif (s41.toList == (⟨#[]⟩ : ByteArray).toList) then
          (Option.bind (labels_reader_fail_c (⟨y2.f0, r11, y2.f2⟩ : S89) r11) fun (y69 : S89) =>
            some (y69.f0, y69.f1, y69.f2))
          else
          (some (y2.f0, r11, y2.f2))) fun (j63 : ByteArray × Int × Int) =>
        Option.bind (labels_reader_fail_c (⟨j63.1, j63.2.1, j63.2.2⟩ : S89) y2.f1) fun (y74 : S89) =>
        some (y74.f0, y74.f1, y74.f2))
      else
      (some (y2.f0, r11, y2.f2))) fun (j57 : ByteArray × Int × Int) =>
    some (s41, (⟨j57.1, j57.2.1, j57.2.2⟩ : S89)))
theorem labels_reader_name_ev (a0 : S89) (a1 : Bool) : OLe (labels_reader_name_c a0 a1) (labels_reader_name a0 a1) := by
  unfold labels_reader_name_c labels_reader_name
  exact (OLe.cond (OLe.refl _) (OLe.bind (labels_reader_blanks_ev _) (fun _ => (OLe.bind (OLe.loop (fun _ => labels_reader_name_l22_ev _ _ _)) (fun _ => (OLe.bind (OLe.refl _) (fun _ => (OLe.bind (OLe.cond (OLe.bind (labels_Metric_ev _) (fun _ => (OLe.cond (OLe.refl _) (OLe.cond (OLe.bind (labels_Name_ev _) (fun _ => (OLe.refl _))) (OLe.refl _))))) (OLe.cond (OLe.bind (labels_Name_ev _) (fun _ => (OLe.refl _))) (OLe.refl _))) (fun _ => (OLe.bind (OLe.cond (OLe.bind (OLe.cond (OLe.bind (labels_reader_fail_ev _ _) (fun _ => (OLe.refl _))) (OLe.refl _)) (fun _ => (OLe.bind (labels_reader_fail_ev _ _) (fun _ => (OLe.refl _))))) (OLe.refl _)) (fun _ => (OLe.refl _))))))))))))
noncomputable def labels_reader_next_c (a0 : S89) (a1 : Int) : Option (Bool × S89) :=
  bif (decide (a0.f2 ≥ 0)) then
  (some (false, a0))
  else
  (Option.bind (labels_reader_blanks_c a0) fun (y2 : S89) =>
    Option.bind (bif (decide (y2.f1 ≥ (y2.f0.size : Int))) then
      (some true)
      else
      (Option.bind (bx y2.f0 y2.f1) fun (c13 : Int) =>
        some (c13 != a1))) fun (j7 : Bool) =>
    bif j7 then
    (some (false, y2))
    else
    (some (true, (⟨y2.f0, (IntKind.wrap .i64 (y2.f1 + 1)), y2.f2⟩ : S89))))
theorem labels_reader_next_ev (a0 : S89) (a1 : Int) : OLe (labels_reader_next_c a0 a1) (labels_reader_next a0 a1) := by
  unfold labels_reader_next_c labels_reader_next
  exact (OLe.cond (OLe.refl _) (OLe.bind (labels_reader_blanks_ev _) (fun _ => (OLe.bind (OLe.cond (OLe.refl _) (OLe.bind (OLe.refl _) (fun _ => (OLe.refl _)))) (fun _ => (OLe.cond (OLe.refl _) (OLe.refl _)))))))
noncomputable def labels_reader_want_c (a0 : S89) (a1 : Int) : Option S89 :=
  Option.bind (labels_reader_next_c a0 a1) fun (y1 : Bool × S89) =>
  Option.bind (bif (!y1.1) then
    (Option.bind (labels_reader_fail_c y1.2 y1.2.f1) fun (y12 : S89) =>
      some (y12.f0, y12.f1, y12.f2))
    else
    (some (y1.2.f0, y1.2.f1, y1.2.f2))) fun (j6 : ByteArray × Int × Int) =>
  some (⟨j6.1, j6.2.1, j6.2.2⟩ : S89)
theorem labels_reader_want_ev (a0 : S89) (a1 : Int) : OLe (labels_reader_want_c a0 a1) (labels_reader_want a0 a1) := by
  unfold labels_reader_want_c labels_reader_want
  exact (OLe.bind (labels_reader_next_ev _ _) (fun _ => (OLe.bind (OLe.cond (OLe.bind (labels_reader_fail_ev _ _) (fun _ => (OLe.refl _))) (OLe.refl _)) (fun _ => (OLe.refl _)))))
noncomputable def strings_Builder_WriteByte_c (a0 : S127) (a1 : Int) : Option (Unit × S127) :=
  Option.bind (app ((strings_Builder_copyCheck (⟨a0.f1⟩ : S127)).f1) [a1]) fun (zs14 : List Int) =>
  some ((), (⟨zs14⟩ : S127))
theorem strings_Builder_WriteByte_ev (a0 : S127) (a1 : Int) : OLe (strings_Builder_WriteByte_c a0 a1) (strings_Builder_WriteByte a0 a1) := by
  unfold strings_Builder_WriteByte_c strings_Builder_WriteByte
  exact (OLe.bind (OLe.refl _) (fun _ => (OLe.refl _)))
noncomputable def labels_reader_value_l35_c : (ByteArray × Int × Int × Unit × (List Int)) → Option ((ByteArray × Int × Int × Unit × (List Int)) ⊕ ((ByteArray × Int × Int) ⊕ (ByteArray × S89))) := fun s19 =>
  bif ((decide (s19.2.2.1 < 0)) && (decide (s19.2.1 < (s19.1.size : Int)))) then
  (Option.bind (bx s19.1 s19.2.1) fun (c44 : Int) =>
    bif (c44 == 34) then
    (Option.bind (strings_Builder_String (⟨s19.2.2.2.2⟩ : S127)) fun (y47 : ByteArray) =>
      some (Sum.inr (Sum.inr (y47, (⟨s19.1, (IntKind.wrap .i64 (s19.2.1 + 1)), s19.2.2.1⟩ : S89)))))
    else
    (Option.bind (bif (c44 != 92) then
        (Option.bind (strings_Builder_WriteByte_c (⟨s19.2.2.2.2⟩ : S127) c44) fun (y64 : Unit × S127) =>
          some ((), y64.2.f1, s19.1, (IntKind.wrap .i64 (s19.2.1 + 1)), s19.2.2.1))
        else
        (Option.bind (bif (decide ((IntKind.wrap .i64 (s19.2.1 + 1)) ≥ (s19.1.size : Int))) then
            (Option.bind (labels_reader_fail_c (⟨s19.1, (IntKind.wrap .i64 (s19.2.1 + 1)), s19.2.2.1⟩ : S89) (IntKind.wrap .i64 (s19.2.1 + 1))) fun (y87 : S89) =>
              some ((), s19.2.2.2.2, y87.f0, y87.f1, y87.f2))
            else
            (Option.bind (bx s19.1 (IntKind.wrap .i64 (s19.2.1 + 1))) fun (c92 : Int) =>
              Option.bind (bif (c92 == 110) then
                (Option.bind (strings_Builder_WriteByte_c (⟨s19.2.2.2.2⟩ : S127) 10) fun (y106 : Unit × S127) =>
                  some ((), y106.2.f1, s19.1, (IntKind.wrap .i64 (s19.2.1 + 1)), s19.2.2.1))
                else
                (Option.bind (bif ((c92 == 92) || (c92 == 34)) then
                    (Option.bind (strings_Builder_WriteByte_c (⟨s19.2.2.2.2⟩ : S127) c92) fun (y133 : Unit × S127) =>
                      some ((), y133.2.f1, s19.1, (IntKind.wrap .i64 (s19.2.1 + 1)), s19.2.2.1))
                    else
                    (Option.bind (labels_reader_fail_c (⟨s19.1, (IntKind.wrap .i64 (s19.2.1 + 1)), s19.2.2.1⟩ : S89) (IntKind.wrap .i64 ((IntKind.wrap .i64 (s19.2.1 + 1)) - 1))) fun (y144 : S89) =>
                      some ((), s19.2.2.2.2, y144.f0, y144.f1, y144.f2))) fun (j121 : Unit × (List Int) × ByteArray × Int × Int) =>
                  some ((), j121.2.1, j121.2.2.1, j121.2.2.2.1, j121.2.2.2.2))) fun (j94 : Unit × (List Int) × ByteArray × Int × Int) =>
              some ((), j94.2.1, j94.2.2.1, (IntKind.wrap .i64 (j94.2.2.2.1 + 1)), j94.2.2.2.2))) fun (j75 : Unit × (List Int) × ByteArray × Int × Int) =>
          some ((), j75.2.1, j75.2.2.1, j75.2.2.2.1, j75.2.2.2.2))) fun (j52 : Unit × (List Int) × ByteArray × Int × Int) =>
      some (Sum.inl (j52.2.2.1, j52.2.2.2.1, j52.2.2.2.2, (), j52.2.1))))
  else
  (some (Sum.inr (Sum.inl (s19.1, s19.2.1, s19.2.2.1))))
theorem labels_reader_value_l35_ev  (s19 : ByteArray × Int × Int × Unit × (List Int)) : OLe (labels_reader_value_l35_c  s19) (labels_reader_value_l35  s19) := by
  unfold labels_reader_value_l35_c labels_reader_value_l35
  exact (OLe.cond (OLe.bind (OLe.refl _) (fun _ => (OLe.cond (OLe.bind (OLe.refl _) (fun _ => (OLe.refl _))) (OLe.bind (OLe.cond (OLe.bind (strings_Builder_WriteByte_ev _ _) (fun _ => (OLe.refl _))) (OLe.bind (OLe.cond (OLe.bind (labels_reader_fail_ev _ _) (fun _ => (OLe.refl _))) (OLe.bind (OLe.refl _) (fun _ => (OLe.bind (OLe.cond (OLe.bind (strings_Builder_WriteByte_ev _ _) (fun _ => (OLe.refl _))) (OLe.bind (OLe.cond (OLe.bind (strings_Builder_WriteByte_ev _ _) (fun _ => (OLe.refl _))) (OLe.bind (labels_reader_fail_ev _ _) (fun _ => (OLe.refl _)))) (fun _ => (OLe.refl _)))) (fun _ => (OLe.refl _)))))) (fun _ => (OLe.refl _)))) (fun _ => (OLe.refl _)))))) (OLe.refl _))
noncomputable def labels_reader_value_c (a0 : S89) : Option (ByteArray × S89) :=
  Option.bind (labels_reader_want_c a0 34) fun (y1 : S89) =>
  Option.bind (loopF 1000000 labels_reader_value_l35_c (y1.f0, y1.f1, y1.f2, (), [])) fun (r17 : (ByteArray × Int × Int) ⊕ (ByteArray × S89)) =>
  match r17 with
  | Sum.inl r31 => Option.bind (labels_reader_fail_c (⟨r31.1, r31.2.1, r31.2.2⟩ : S89) (r31.1.size : Int)) fun (y149 : S89) =>
    some ((⟨#[]⟩ : ByteArray), y149)
  | Sum.inr v154 => some v154
theorem labels_reader_value_ev (a0 : S89) : OLe (labels_reader_value_c a0) (labels_reader_value a0) := by
  unfold labels_reader_value_c labels_reader_value
  exact (OLe.bind (labels_reader_want_ev _ _) (fun _ => (OLe.bind (OLe.loop (fun _ => labels_reader_value_l35_ev  _)) (fun j => by cases j with | inl a => exact (OLe.bind (labels_reader_fail_ev _ _) (fun _ => (OLe.refl _))) | inr b => exact (OLe.refl _)))))
noncomputable def labels_reader_braces_l29_c : (ByteArray × Int × Int × (List S49)) → Option ((ByteArray × Int × Int × (List S49)) ⊕ (((List S49) × ByteArray × Int × Int) ⊕ ((List S49) × S89))) := fun s11 =>
  Option.bind (labels_reader_next_c (⟨s11.1, s11.2.1, s11.2.2.1⟩ : S89) 125) fun (y31 : Bool × S89) =>
  bif (!y31.1) then
  (Option.bind (labels_reader_name_c y31.2 false) fun (y37 : ByteArray × S89) =>
    Option.bind (labels_reader_want_c y37.2 61) fun (y43 : S89) =>
    Option.bind (labels_reader_value_c y43) fun (y48 : ByteArray × S89) =>
    bif (decide (y48.2.f2 ≥ 0)) then
    (some (Sum.inr (Sum.inr ([], y48.2))))
    else
    (Option.bind (app s11.2.2.2 [(⟨y37.1, y48.1⟩ : S49)]) fun (zs58 : List S49) =>
      Option.bind (labels_reader_next_c y48.2 44) fun (y64 : Bool × S89) =>
      bif (!y64.1) then
      (Option.bind (labels_reader_want_c y64.2 125) fun (y70 : S89) =>
        some (Sum.inr (Sum.inr (zs58, y70))))
      else
      (some (Sum.inl (y64.2.f0, y64.2.f1, y64.2.f2, zs58)))))
  else
  (some (Sum.inr (Sum.inl (s11.2.2.2, y31.2.f0, y31.2.f1, y31.2.f2))))
theorem labels_reader_braces_l29_ev  (s11 : ByteArray × Int × Int × (List S49)) : OLe (labels_reader_braces_l29_c  s11) (labels_reader_braces_l29  s11) := by
  unfold labels_reader_braces_l29_c labels_reader_braces_l29
  exact (OLe.bind (labels_reader_next_ev _ _) (fun _ => (OLe.cond (OLe.bind (labels_reader_name_ev _ _) (fun _ => (OLe.bind (labels_reader_want_ev _ _) (fun _ => (OLe.bind (labels_reader_value_ev _) (fun _ => (OLe.cond (OLe.refl _) (OLe.bind (OLe.refl _) (fun _ => (OLe.bind (labels_reader_next_ev _ _) (fun _ => (OLe.cond (OLe.bind (labels_reader_want_ev _ _) (fun _ => (OLe.refl _))) (OLe.refl _))))))))))))) (OLe.refl _))))
noncomputable def labels_reader_braces_c (a0 : S89) : Option ((List S49) × S89) :=
  Option.bind (loopF 1000000 labels_reader_braces_l29_c (a0.f0, a0.f1, a0.f2, [])) fun (r9 : ((List S49) × ByteArray × Int × Int) ⊕ ((List S49) × S89)) =>
  match r9 with
  | Sum.inl r21 => some (r21.1, (⟨r21.2.1, r21.2.2.1, r21.2.2.2⟩ : S89))
  | Sum.inr v75 => some v75
theorem labels_reader_braces_ev (a0 : S89) : OLe (labels_reader_braces_c a0) (labels_reader_braces a0) := by
  unfold labels_reader_braces_c labels_reader_braces
  exact (OLe.bind (OLe.loop (fun _ => labels_reader_braces_l29_ev  _)) (fun j => by cases j with | inl a => exact (OLe.refl _) | inr b => exact (OLe.refl _)))
noncomputable def labels_own_c (a0 : List S49) : Option (List S49) :=
  Option.bind (mkrow ((⟨(⟨#[]⟩ : ByteArray), (⟨#[]⟩ : ByteArray)⟩ : S49) : S49) (a0.length : Int) (a0.length : Int)) fun (xs1 : List S49) =>
  some (lcopy xs1 a0)
theorem labels_own_ev (a0 : List S49) : OLe (labels_own_c a0) (labels_own a0) := by
  unfold labels_own_c labels_own
  exact (OLe.bind (OLe.refl _) (fun _ => (OLe.refl _)))
noncomputable def slices_insertionSortCmpFunc_l52_c (a1 : Int) : ((List S49) × Int) → Option (((List S49) × Int) ⊕ ((List S49))) := fun s37 =>
  Option.bind (bif (decide (s37.2 > a1)) then
    (Option.bind (ix s37.1 s37.2) fun (x60 : S49) =>
      Option.bind (ix s37.1 (IntKind.wrap .i64 (s37.2 - 1))) fun (x69 : S49) =>
      some (decide ((labels_sorted_1 x60 x69) < 0)))
    else
    (some false)) fun (j54 : Bool) =>
  bif j54 then
  (Option.bind (ix s37.1 (IntKind.wrap .i64 (s37.2 - 1))) fun (x79 : S49) =>
    Option.bind (ix s37.1 s37.2) fun (x88 : S49) =>
    Option.bind (ix s37.1 s37.2) fun (x97 : S49) =>
    Option.bind (ix (lset s37.1 s37.2 x79) (IntKind.wrap .i64 (s37.2 - 1))) fun (x109 : S49) =>
    some (Sum.inl ((lset (lset s37.1 s37.2 x79) (IntKind.wrap .i64 (s37.2 - 1)) x88), (IntKind.wrap .i64 (s37.2 - 1)))))
  else
  (some (Sum.inr s37.1))
theorem slices_insertionSortCmpFunc_l52_ev (a1 : Int) (s37 : (List S49) × Int) : OLe (slices_insertionSortCmpFunc_l52_c a1 s37) (slices_insertionSortCmpFunc_l52 a1 s37) := by
  unfold slices_insertionSortCmpFunc_l52_c slices_insertionSortCmpFunc_l52
  exact (OLe.bind (OLe.cond (OLe.bind (OLe.refl _) (fun _ => (OLe.bind (OLe.refl _) (fun _ => (OLe.refl _))))) (OLe.refl _)) (fun _ => (OLe.cond (OLe.bind (OLe.refl _) (fun _ => (OLe.bind (OLe.refl _) (fun _ => (OLe.bind (OLe.refl _) (fun _ => (OLe.bind (OLe.refl _) (fun _ => (OLe.refl _))))))))) (OLe.refl _))))
noncomputable def slices_insertionSortCmpFunc_l25_c (a1 : Int) (a2 : Int) : ((List S49) × Int) → Option (((List S49) × Int) ⊕ ((List S49))) := fun s10 =>
  bif (decide (s10.2 < a2)) then
  (Option.bind (loopF 1000000 (slices_insertionSortCmpFunc_l52_c a1) (s10.1, s10.2)) fun (r35 : (List S49)) =>
    some (Sum.inl (r35, (IntKind.wrap .i64 (s10.2 + 1)))))
  else
  (some (Sum.inr s10.1))
theorem slices_insertionSortCmpFunc_l25_ev (a1 : Int) (a2 : Int) (s10 : (List S49) × Int) : OLe (slices_insertionSortCmpFunc_l25_c a1 a2 s10) (slices_insertionSortCmpFunc_l25 a1 a2 s10) := by
  unfold slices_insertionSortCmpFunc_l25_c slices_insertionSortCmpFunc_l25
  exact (OLe.cond (OLe.bind (OLe.loop (fun _ => slices_insertionSortCmpFunc_l52_ev _ _)) (fun _ => (OLe.refl _))) (OLe.refl _))
noncomputable def slices_insertionSortCmpFunc_c (a0 : List S49) (a1 : Int) (a2 : Int) : Option (List S49) :=
  Option.bind (loopF 1000000 (slices_insertionSortCmpFunc_l25_c a1 a2) (a0, (IntKind.wrap .i64 (a1 + 1)))) fun (r8 : (List S49)) =>
  some r8
theorem slices_insertionSortCmpFunc_ev (a0 : List S49) (a1 : Int) (a2 : Int) : OLe (slices_insertionSortCmpFunc_c a0 a1 a2) (slices_insertionSortCmpFunc a0 a1 a2) := by
  unfold slices_insertionSortCmpFunc_c slices_insertionSortCmpFunc
  exact (OLe.bind (OLe.loop (fun _ => slices_insertionSortCmpFunc_l25_ev _ _ _)) (fun _ => (OLe.refl _)))
noncomputable def slices_symMergeCmpFunc_c (a0 : List S49) (a1 : Int) (a2 : Int) (a3 : Int) : Option (List S49) := none
theorem slices_symMergeCmpFunc_ev (a0 : List S49) (a1 : Int) (a2 : Int) (a3 : Int) : OLe (slices_symMergeCmpFunc_c a0 a1 a2 a3) (slices_symMergeCmpFunc a0 a1 a2 a3) := by
  intro r h; cases h
noncomputable def slices_stableCmpFunc_l25_c (a1 : Int) : ((List S49) × Int × Int) → Option (((List S49) × Int × Int) ⊕ ((List S49) × Int)) := fun s10 =>
  bif (decide (s10.2.2 ≤ a1)) then
  (Option.bind (slices_insertionSortCmpFunc_c s10.1 s10.2.1 s10.2.2) fun (y28 : (List S49)) =>
    some (Sum.inl (y28, s10.2.2, (IntKind.wrap .i64 (s10.2.2 + 20)))))
  else
  (some (Sum.inr (s10.1, s10.2.1)))
theorem slices_stableCmpFunc_l25_ev (a1 : Int) (s10 : (List S49) × Int × Int) : OLe (slices_stableCmpFunc_l25_c a1 s10) (slices_stableCmpFunc_l25 a1 s10) := by
  unfold slices_stableCmpFunc_l25_c slices_stableCmpFunc_l25
  exact (OLe.cond (OLe.bind (slices_insertionSortCmpFunc_ev _ _ _) (fun _ => (OLe.refl _))) (OLe.refl _))
noncomputable def slices_stableCmpFunc_l95_c (a1 : Int) (s53 : (List S49) × Int) : ((List S49) × Int × Int) → Option (((List S49) × Int × Int) ⊕ ((List S49) × Int)) := fun s80 =>
  bif (decide (s80.2.2 ≤ a1)) then
  (Option.bind (slices_symMergeCmpFunc_c s80.1 s80.2.1 (IntKind.wrap .i64 (s80.2.1 + s53.2)) s80.2.2) fun (y98 : (List S49)) =>
    some (Sum.inl (y98, s80.2.2, (IntKind.wrap .i64 (s80.2.2 + (IntKind.wrap .i64 (2 * s53.2)))))))
  else
  (some (Sum.inr (s80.1, s80.2.1)))
theorem slices_stableCmpFunc_l95_ev (a1 : Int) (s53 : (List S49) × Int) (s80 : (List S49) × Int × Int) : OLe (slices_stableCmpFunc_l95_c a1 s53 s80) (slices_stableCmpFunc_l95 a1 s53 s80) := by
  unfold slices_stableCmpFunc_l95_c slices_stableCmpFunc_l95
  exact (OLe.cond (OLe.bind (slices_symMergeCmpFunc_ev _ _ _ _) (fun _ => (OLe.refl _))) (OLe.refl _))
noncomputable def slices_stableCmpFunc_l68_c (a1 : Int) : ((List S49) × Int) → Option (((List S49) × Int) ⊕ ((List S49))) := fun s53 =>
  bif (decide (s53.2 < a1)) then
  (Option.bind (loopF 1000000 (slices_stableCmpFunc_l95_c a1 s53) (s53.1, 0, (IntKind.wrap .i64 (2 * s53.2)))) fun (r78 : (List S49) × Int) =>
    Option.bind (bif (decide ((IntKind.wrap .i64 (r78.2 + s53.2)) < a1)) then
      (Option.bind (slices_symMergeCmpFunc_c r78.1 r78.2 (IntKind.wrap .i64 (r78.2 + s53.2)) a1) fun (y115 : (List S49)) =>
        some y115)
      else
      (some r78.1)) fun (j106 : (List S49)) =>
    some (Sum.inl (j106, (IntKind.wrap .i64 (s53.2 * 2)))))
  else
  (some (Sum.inr s53.1))
theorem slices_stableCmpFunc_l68_ev (a1 : Int) (s53 : (List S49) × Int) : OLe (slices_stableCmpFunc_l68_c a1 s53) (slices_stableCmpFunc_l68 a1 s53) := by
  unfold slices_stableCmpFunc_l68_c slices_stableCmpFunc_l68
  exact (OLe.cond (OLe.bind (OLe.loop (fun _ => slices_stableCmpFunc_l95_ev _ _ _)) (fun _ => (OLe.bind (OLe.cond (OLe.bind (slices_symMergeCmpFunc_ev _ _ _ _) (fun _ => (OLe.refl _))) (OLe.refl _)) (fun _ => (OLe.refl _))))) (OLe.refl _))
noncomputable def slices_stableCmpFunc_c (a0 : List S49) (a1 : Int) : Option (List S49) :=
  Option.bind (loopF 1000000 (slices_stableCmpFunc_l25_c a1) (a0, 0, 20)) fun (r8 : (List S49) × Int) =>
  Option.bind (slices_insertionSortCmpFunc_c r8.1 r8.2 a1) fun (y36 : (List S49)) =>
  Option.bind (loopF 1000000 (slices_stableCmpFunc_l68_c a1) (y36, 20)) fun (r51 : (List S49)) =>
  some r51
theorem slices_stableCmpFunc_ev (a0 : List S49) (a1 : Int) : OLe (slices_stableCmpFunc_c a0 a1) (slices_stableCmpFunc a0 a1) := by
  unfold slices_stableCmpFunc_c slices_stableCmpFunc
  exact (OLe.bind (OLe.loop (fun _ => slices_stableCmpFunc_l25_ev _ _)) (fun _ => (OLe.bind (slices_insertionSortCmpFunc_ev _ _ _) (fun _ => (OLe.bind (OLe.loop (fun _ => slices_stableCmpFunc_l68_ev _ _)) (fun _ => (OLe.refl _)))))))
noncomputable def slices_SortStableFunc_c (a0 : List S49) : Option (List S49) :=
  Option.bind (slices_stableCmpFunc_c a0 (a0.length : Int)) fun (y1 : (List S49)) =>
  some y1
theorem slices_SortStableFunc_ev (a0 : List S49) : OLe (slices_SortStableFunc_c a0) (slices_SortStableFunc a0) := by
  unfold slices_SortStableFunc_c slices_SortStableFunc
  exact (OLe.bind (slices_stableCmpFunc_ev _ _) (fun _ => (OLe.refl _)))
noncomputable def labels_sorted_l45_c (y10 : (List S49)) : ((List S49) × Bool × Int) → Option (((List S49) × Bool × Int) ⊕ ((List S49) × Bool)) := fun s28 =>
  bif (decide (s28.2.2 < (y10.length : Int))) then
  (Option.bind (ix y10 s28.2.2) fun (x48 : S49) =>
    Option.bind (bif s28.2.1 then
      (some true)
      else
      (bif (decide (s28.2.2 > 0)) then
        (Option.bind (ix y10 (IntKind.wrap .i64 (s28.2.2 - 1))) fun (x65 : S49) =>
          some (x65.f0.toList == x48.f0.toList))
        else
        (some false))) fun (j58 : Bool) =>
    Option.bind (bif (!(x48.f1.toList == (⟨#[]⟩ : ByteArray).toList)) then
      (Option.bind (app s28.1 [x48]) fun (zs88 : List S49) =>
        some zs88)
      else
      (some s28.1)) fun (j74 : (List S49)) =>
    some (Sum.inl (j74, j58, (IntKind.wrap .i64 (s28.2.2 + 1)))))
  else
  (some (Sum.inr (s28.1, s28.2.1)))
theorem labels_sorted_l45_ev (y10 : (List S49)) (s28 : (List S49) × Bool × Int) : OLe (labels_sorted_l45_c y10 s28) (labels_sorted_l45 y10 s28) := by
  unfold labels_sorted_l45_c labels_sorted_l45
  exact (OLe.cond (OLe.bind (OLe.refl _) (fun _ => (OLe.bind (OLe.cond (OLe.refl _) (OLe.cond (OLe.bind (OLe.refl _) (fun _ => (OLe.refl _))) (OLe.refl _))) (fun _ => (OLe.bind (OLe.cond (OLe.bind (OLe.refl _) (fun _ => (OLe.refl _))) (OLe.refl _)) (fun _ => (OLe.refl _))))))) (OLe.refl _))
noncomputable def labels_sorted_c (a0 : List S49) : Option ((List S49) × Bool) :=
  Option.bind (labels_own_c a0) fun (y1 : (List S49)) =>
  Option.bind (slices_SortStableFunc_c y1) fun (y10 : (List S49)) =>
  Option.bind (loopF 1000000 (labels_sorted_l45_c y10) ([], false, 0)) fun (r26 : (List S49) × Bool) =>
  some (r26.1, r26.2)
theorem labels_sorted_ev (a0 : List S49) : OLe (labels_sorted_c a0) (labels_sorted a0) := by
  unfold labels_sorted_c labels_sorted
  exact (OLe.bind (labels_own_ev _) (fun _ => (OLe.bind (slices_SortStableFunc_ev _) (fun _ => (OLe.bind (OLe.loop (fun _ => labels_sorted_l45_ev _ _)) (fun _ => (OLe.refl _)))))))
noncomputable def labels_Parse_c (a0 : ByteArray) : Option ((List S49) × Int × Int) :=
  bif (decide ((a0.size : Int) > 65536)) then
  (some ([], 4, 0))
  else
  (Option.bind (labels_reader_blanks_c (⟨a0, 0, (-1)⟩ : S89)) fun (y3 : S89) =>
    Option.bind (bif (decide (y3.f1 < (a0.size : Int))) then
      (Option.bind (bx a0 y3.f1) fun (c14 : Int) =>
        some (c14 == 123))
      else
      (some false)) fun (j8 : Bool) =>
    Option.bind (bif (!j8) then
      (Option.bind (labels_reader_name_c y3 true) fun (y26 : ByteArray × S89) =>
        Option.bind (app ([] : List S49) [(⟨(⟨#[95, 95, 110, 97, 109, 101, 95, 95]⟩ : ByteArray), y26.1⟩ : S49)]) fun (zs35 : List S49) =>
        Option.bind (labels_reader_blanks_c y26.2) fun (y41 : S89) =>
        some (zs35, y41.f0, y41.f1, y41.f2))
      else
      (some ([], y3.f0, y3.f1, y3.f2))) fun (j16 : (List S49) × ByteArray × Int × Int) =>
    Option.bind (labels_reader_next_c (⟨j16.2.1, j16.2.2.1, j16.2.2.2⟩ : S89) 123) fun (y46 : Bool × S89) =>
    Option.bind (bif y46.1 then
      (Option.bind (labels_reader_braces_c y46.2) fun (y61 : (List S49) × S89) =>
        Option.bind (app j16.1 y61.1) fun (zs70 : List S49) =>
        some (zs70, y61.2.f0, y61.2.f1, y61.2.f2))
      else
      (some (j16.1, y46.2.f0, y46.2.f1, y46.2.f2))) fun (j51 : (List S49) × ByteArray × Int × Int) =>
    Option.bind (labels_reader_blanks_c (⟨j51.2.1, j51.2.2.1, j51.2.2.2⟩ : S89)) fun (y76 : S89) =>
    Option.bind (bif ((decide (y76.f2 < 0)) && (decide (y76.f1 < (a0.size : Int)))) then
      (Option.bind (labels_reader_fail_c y76 y76.f1) fun (y93 : S89) =>
        some (y93.f0, y93.f1, y93.f2))
      else
      (some (y76.f0, y76.f1, y76.f2))) fun (j87 : ByteArray × Int × Int) =>
    bif (decide (j87.2.2 ≥ 0)) then
    (some ([], 3, j87.2.2))
    else
    (Option.bind (labels_sorted_c j51.1) fun (y103 : (List S49) × Bool) =>
      bif y103.2 then
      (some ([], 6, 0))
      else
      (Option.bind (labels_Right_c y103.1) fun (y113 : Int × Int) =>
        bif (y113.1 != 0) then
        (some ([], y113.1, y113.2))
        else
        (some (y103.1, 0, 0)))))
theorem labels_Parse_ev (a0 : ByteArray) : OLe (labels_Parse_c a0) (labels_Parse a0) := by
  unfold labels_Parse_c labels_Parse
  exact (OLe.cond (OLe.refl _) (OLe.bind (labels_reader_blanks_ev _) (fun _ => (OLe.bind (OLe.cond (OLe.bind (OLe.refl _) (fun _ => (OLe.refl _))) (OLe.refl _)) (fun _ => (OLe.bind (OLe.cond (OLe.bind (labels_reader_name_ev _ _) (fun _ => (OLe.bind (OLe.refl _) (fun _ => (OLe.bind (labels_reader_blanks_ev _) (fun _ => (OLe.refl _))))))) (OLe.refl _)) (fun _ => (OLe.bind (labels_reader_next_ev _ _) (fun _ => (OLe.bind (OLe.cond (OLe.bind (labels_reader_braces_ev _) (fun _ => (OLe.bind (OLe.refl _) (fun _ => (OLe.refl _))))) (OLe.refl _)) (fun _ => (OLe.bind (labels_reader_blanks_ev _) (fun _ => (OLe.bind (OLe.cond (OLe.bind (labels_reader_fail_ev _ _) (fun _ => (OLe.refl _))) (OLe.refl _)) (fun _ => (OLe.cond (OLe.refl _) (OLe.bind (labels_sorted_ev _) (fun _ => (OLe.cond (OLe.refl _) (OLe.bind (labels_Right_ev _) (fun _ => (OLe.cond (OLe.refl _) (OLe.refl _)))))))))))))))))))))))
noncomputable def labels_Hash_1_l16_c (a0 : ByteArray) : (Int × Int) → Option ((Int × Int) ⊕ (Int)) := fun s7 =>
  bif (decide (s7.2 < (a0.size : Int))) then
  (Option.bind (bx a0 s7.2) fun (c19 : Int) =>
    some (Sum.inl ((IntKind.wrap .u64 ((bitXor .u64 s7.1 (IntKind.wrap .u64 c19)) * 1099511628211)), (IntKind.wrap .i64 (s7.2 + 1)))))
  else
  (some (Sum.inr s7.1))
theorem labels_Hash_1_l16_ev (a0 : ByteArray) (s7 : Int × Int) : OLe (labels_Hash_1_l16_c a0 s7) (labels_Hash_1_l16 a0 s7) := by
  unfold labels_Hash_1_l16_c labels_Hash_1_l16
  exact (OLe.cond (OLe.bind (OLe.refl _) (fun _ => (OLe.refl _))) (OLe.refl _))
noncomputable def labels_Hash_1_c (a0 : ByteArray) (a1 : Int) : Option Int :=
  Option.bind (loopF 1000000 (labels_Hash_1_l16_c a0) (a1, 0)) fun (r5 : Int) =>
  some (IntKind.wrap .u64 ((bitXor .u64 r5 255) * 1099511628211))
theorem labels_Hash_1_ev (a0 : ByteArray) (a1 : Int) : OLe (labels_Hash_1_c a0 a1) (labels_Hash_1 a0 a1) := by
  unfold labels_Hash_1_c labels_Hash_1
  exact (OLe.bind (OLe.loop (fun _ => labels_Hash_1_l16_ev _ _)) (fun _ => (OLe.refl _)))
noncomputable def labels_Hash_l17_c (a0 : List S49) : (Int × Int) → Option ((Int × Int) ⊕ (Int)) := fun s8 =>
  bif (decide (s8.2 < (a0.length : Int))) then
  (Option.bind (ix a0 s8.2) fun (x20 : S49) =>
    Option.bind (labels_Hash_1_c x20.f0 s8.1) fun (y29 : Int) =>
    Option.bind (labels_Hash_1_c x20.f1 y29) fun (y34 : Int) =>
    some (Sum.inl (y34, (IntKind.wrap .i64 (s8.2 + 1)))))
  else
  (some (Sum.inr s8.1))
theorem labels_Hash_l17_ev (a0 : List S49) (s8 : Int × Int) : OLe (labels_Hash_l17_c a0 s8) (labels_Hash_l17 a0 s8) := by
  unfold labels_Hash_l17_c labels_Hash_l17
  exact (OLe.cond (OLe.bind (OLe.refl _) (fun _ => (OLe.bind (labels_Hash_1_ev _ _) (fun _ => (OLe.bind (labels_Hash_1_ev _ _) (fun _ => (OLe.refl _))))))) (OLe.refl _))
noncomputable def labels_Hash_c (a0 : List S49) : Option Int :=
  Option.bind (loopF 1000000 (labels_Hash_l17_c a0) (14695981039346656037, 0)) fun (r6 : Int) =>
  some r6
theorem labels_Hash_ev (a0 : List S49) : OLe (labels_Hash_c a0) (labels_Hash a0) := by
  unfold labels_Hash_c labels_Hash
  exact (OLe.bind (OLe.loop (fun _ => labels_Hash_l17_ev _ _)) (fun _ => (OLe.refl _)))
noncomputable def tocsinlaw04_awake_c : Option Bool :=
  Option.bind (labels_Parse_c (⟨#[117, 112, 32, 123, 32, 106, 111, 98, 32, 61, 32, 34, 120, 34, 32, 44, 32, 125]⟩ : ByteArray)) fun (y1 : (List S49) × Int × Int) =>
  Option.bind (labels_Print_c y1.1) fun (y10 : ByteArray × Int) =>
  Option.bind (bif (y1.2.1 == 0) then
    (bif (y10.2 == 0) then
      (bif (y10.1.toList == (⟨#[117, 112, 123, 106, 111, 98, 61, 34, 120, 34, 125]⟩ : ByteArray).toList) then
        (Option.bind (labels_Get_c y1.1 (⟨#[106, 111, 98]⟩ : ByteArray)) fun (y20 : ByteArray) =>
          bif (y20.toList == (⟨#[120]⟩ : ByteArray).toList) then
          (Option.bind (labels_Hash_c []) fun (y23 : Int) =>
            some (y23 == 14695981039346656037))
          else
          (some false))
        else
        (some false))
      else
      (some false))
    else
    (some false)) fun (j12 : Bool) =>
  some j12
theorem tocsinlaw04_awake_ev  : OLe (tocsinlaw04_awake_c ) (tocsinlaw04_awake ) := by
  unfold tocsinlaw04_awake_c tocsinlaw04_awake
  exact (OLe.bind (labels_Parse_ev _) (fun _ => (OLe.bind (labels_Print_ev _) (fun _ => (OLe.bind (OLe.cond (OLe.cond (OLe.cond (OLe.bind (labels_Get_ev _ _) (fun _ => (OLe.cond (OLe.bind (labels_Hash_ev _) (fun _ => (OLe.refl _))) (OLe.refl _)))) (OLe.refl _)) (OLe.refl _)) (OLe.refl _)) (fun _ => (OLe.refl _)))))))
end Go.Proofs.YtnlkfajnaelnnaaGreatDoor

namespace Go.Proofs.YtnlkfajnaelnnaaGreatDoor
open Go.GB
theorem awake04 : tocsinlaw04_awake = some true := tocsinlaw04_awake_ev _ (by kernel_rfl)
end Go.Proofs.YtnlkfajnaelnnaaGreatDoor

set_option linter.unusedVariables false
set_option linter.unusedSimpArgs false
set_option maxRecDepth 100000
namespace Go.Proofs.YtnlkfajnaelnnaaGreatDoor
open Go.GB Go.Lib
/-- Parse, where labels are read. -/
theorem Parse_own {s : ByteArray} {m l : List LB} (hs : s.size ≤ 65536) (hv : parseL s = .inr m) (ho : Once m) (hf : FE ltN m l) (hr : (rightE l).1 = 0) : labels_Parse s = some (l, 0, 0) := by
  have hl := parseL_len hv
  obtain ⟨z, h1, h2⟩ := sorted_eq m (by omega)
  have hz : z.filter hasV = l := sts_right hr hf (sts_filter h2)
  have ht : adjB z z.length = false := by
    rw [Bool.eq_false_iff]
    intro e
    exact (adjB_once h2.2).1 e ((Once.fe h2.1).2 ho)
  rw [Parse_read hs Metric_eq, hv]
  show afterP m = _
  unfold afterP
  rw [h1]
  simp only [Option.bind_some, ht, cond_false, Right_eq, hz, hr, bne_self_eq_false]
theorem back_core (l : List LB) (b : List Int) (hl : l.length < 2147483600) (hb : b.length ≤ 2147400000) : tocsinlaw04_LabelsBack l b = some true := by
  unfold tocsinlaw04_LabelsBack
  rw [Right_eq, Print_eq l (by omega), Put_eq (show b.length ≤ 2147470000 by omega)]
  simp only [Option.bind_some]
  by_cases h : (rightE l).1 = 0
  · have hz := right_zero h
    have hlen := textL_len h
    obtain ⟨m, k1, k2, k3⟩ := text_back h (s := ⟨(textL l).toArray⟩) rfl
    have hsz : (⟨(textL l).toArray⟩ : ByteArray).size = (textL l).length := size_tl _
    have e1 := Parse_own (s := ⟨(textL l).toArray⟩) (by rw [hsz]; omega) k1 k3 k2 h
    have hr := Read_back (pre := b) (post := []) h (by rw [List.append_nil, List.length_append]; have := encL_len h; omega)
    rw [List.append_nil] at hr
    have hs := same_self l (by omega)
    have h16 := right_len h
    simp only [h, if_true, bne_self_eq_false, Bool.or_self, cond_false, e1, Option.bind_some, beq_self_eq_true, cond_true, hs, hr, List.length_append, awake04]
  · have e1 : ((rightE l).1 != 0) = true := by rw [bne_iff_ne]; exact h
    simp only [if_neg h, bne_self_eq_false, Bool.or_self, cond_false, e1, cond_true, beq_self_eq_true, List.length_nil, show (((0 : Nat) : Int) == 0) = true from rfl, Option.bind_some, awake04]
theorem tocsinlaw04_LabelsBack_true {I : Imm} {c0 c1 : List Value} {n0 n1 : Nat} (a0 : List S49) (a1 : List Int) (h0 : (Kd.sl kS49).R I a0 c0) (h1 : (Kd.sl (Kd.int .u8)).R I a1 c1)
    (w0 : wSl wS49 a0 n0) (w1 : wSl (wInt .u8) a1 n1) (hn : n0 + n1 ≤ 1048576) : tocsinlaw04_LabelsBack a0 a1 = some true :=
  back_core a0 a1 (by have := w0.len; omega) (by have := w1.len; omega)
end Go.Proofs.YtnlkfajnaelnnaaGreatDoor
