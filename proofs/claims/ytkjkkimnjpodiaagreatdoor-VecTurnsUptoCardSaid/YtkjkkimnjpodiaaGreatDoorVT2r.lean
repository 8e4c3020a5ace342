/- VecTurns: sums and products are the same from both sides; comparisons pick what they count. -/
import Derived.Test.YtkjkkimnjpodiaaGreatDoorPB6vr
import Derived.Test.YtkjkkimnjpodiaaGreatDoorGB32r
import Derived.KernelRfl
import Derived.Lib.LaidU8T
import Derived.Shelf.Unicode.ValidAny
/- Plain laws: what points are matched by. -/
set_option linter.unusedVariables false
set_option linter.unusedSimpArgs false
set_option maxRecDepth 100000
namespace Go.Proofs.YtkjkkimnjpodiaaGreatDoor
open Go.GB Go.Lib
abbrev MT := S24
def nameS : ByteArray := ⟨#[95, 95, 110, 97, 109, 101, 95, 95]⟩
theorem right_rise {l : List LB} (h : (rightE l).1 = 0) : l.Pairwise fun x y => cmpS x.f0 y.f0 = -1 := by
  obtain ⟨h1, h2⟩ := right_none h
  rw [List.pairwise_iff_getElem]
  intro i j hi hj hij
  have step : ∀ k, ∀ (hk : k + 1 < l.length), cmpS (l[k]'(by omega)).f0 l[k + 1].f0 = -1 := by
    intro k hk
    have h3 := h2 (k + 1) hk
    unfold faultAt at h3
    rw [List.getElem?_eq_getElem hk] at h3
    simp only at h3
    split at h3
    · cases h3
    · rw [if_neg (by omega), Nat.add_sub_cancel, List.getElem?_eq_getElem (by omega)] at h3
      simp only at h3
      split at h3
      · rename_i hc; exact hc
      · cases h3
  have key : ∀ d, ∀ (hd : i + 1 + d < l.length), cmpS l[i].f0 l[i + 1 + d].f0 = -1 := by
    intro d
    induction d with
    | zero => intro hd; exact step i (by omega)
    | succ d ih =>
      intro hd
      exact cmpS_trans (ih (by omega)) (step (i + 1 + d) (by omega))
  have := key (j - (i + 1)) (by omega)
  rw [show l[j] = l[i + 1 + (j - (i + 1))] from by congr 1; omega]
  exact this
theorem right_of {l : List LB} (h1 : l.length ≤ 16) (h2 : ∀ x ∈ l, oneE x = 0) (h3 : l.Pairwise fun x y => cmpS x.f0 y.f0 = -1) : (rightE l).1 = 0 := by
  have h4 : (List.range l.length).findSome? (faultAt l) = none := by
    rw [List.findSome?_eq_none_iff]
    intro i hi
    have hi' := List.mem_range.1 hi
    unfold faultAt
    rw [List.getElem?_eq_getElem hi']
    simp only
    rw [if_neg (by rw [h2 _ (List.getElem_mem hi')]; simp)]
    by_cases h0 : i = 0
    · rw [if_pos h0]
    · rw [if_neg h0, List.getElem?_eq_getElem (by omega)]
      simp only
      rw [if_pos (List.pairwise_iff_getElem.1 h3 (i - 1) i (by omega) hi' (by omega))]
  unfold rightE
  rw [if_neg (by omega), h4]; rfl
theorem right_filter {l : List LB} (h : (rightE l).1 = 0) (p : LB → Bool) : (rightE (l.filter p)).1 = 0 := by
  obtain ⟨h1, h2⟩ := right_parts h
  exact right_of (Nat.le_trans (List.length_filter_le p l) h1) (fun x hx => h2 x (List.mem_filter.1 hx).1) ((right_rise h).filter p)
/-! ### Bytes tell label sets apart -/
theorem uvF_inj : ∀ (f n m : Nat) (a b : List Int), n < 128 ^ f → m < 128 ^ f → uvF f n ++ a = uvF f m ++ b → n = m ∧ a = b
  | 0, n, m, a, b, hn, hm, h => by
    simp only [uvF, List.nil_append] at h
    exact ⟨by simp at hn hm; omega, h⟩
  | f + 1, n, m, a, b, hn, hm, h => by
    unfold uvF at h
    rw [Nat.pow_succ] at hn hm
    by_cases h1 : n < 128
    · rw [if_pos h1] at h
      by_cases h2 : m < 128
      · rw [if_pos h2] at h
        simp only [List.cons_append, List.nil_append, List.cons.injEq] at h
        exact ⟨by omega, h.2⟩
      · rw [if_neg h2] at h
        simp only [List.cons_append, List.nil_append, List.cons.injEq] at h
        omega
    · rw [if_neg h1] at h
      by_cases h2 : m < 128
      · rw [if_pos h2] at h
        simp only [List.cons_append, List.nil_append, List.cons.injEq] at h
        omega
      · rw [if_neg h2] at h
        simp only [List.cons_append, List.cons.injEq] at h
        obtain ⟨e, k⟩ := uvF_inj f (n / 128) (m / 128) a b (by omega) (by omega) h.2
        exact ⟨by omega, k⟩
theorem uv_inj {n m : Nat} {a b : List Int} (hn : n < 4294967296) (hm : m < 4294967296) (h : uv n ++ a = uv m ++ b) : n = m ∧ a = b :=
  uvF_inj 10 n m a b (Nat.lt_of_lt_of_le hn (by decide)) (Nat.lt_of_lt_of_le hm (by decide)) h
theorem bytesOf_inj {s t : ByteArray} {a b : List Int} (hs : s.size = t.size) (h : bytesOf s ++ a = bytesOf t ++ b) : s = t ∧ a = b := by
  obtain ⟨h1, h2⟩ := List.append_inj h (by rw [bytesOf_length, bytesOf_length, hs])
  refine ⟨?_, h2⟩
  rw [← ofBytes_bytesOf s, h1, ofBytes_bytesOf]
theorem encLab_inj {x y : LB} {a b : List Int} (hx : oneE x = 0) (hy : oneE y = 0) (h : encLab x ++ a = encLab y ++ b) : x = y ∧ a = b := by
  obtain ⟨x1, _, x2, _⟩ := one_parts hx
  obtain ⟨y1, _, y2, _⟩ := one_parts hy
  have x3 := (named_valid x1).1
  have y3 := (named_valid y1).1
  unfold encLab at h
  simp only [List.append_assoc] at h
  obtain ⟨e1, h⟩ := uv_inj (by omega) (by omega) h
  obtain ⟨e2, h⟩ := bytesOf_inj e1 h
  obtain ⟨e3, h⟩ := uv_inj (by omega) (by omega) h
  obtain ⟨e4, h9⟩ := bytesOf_inj e3 h
  obtain ⟨xa, xb⟩ := x
  obtain ⟨ya, yb⟩ := y
  simp only at e2 e4
  subst e2 e4
  exact ⟨rfl, h9⟩
theorem encLabs_inj : ∀ {l m : List LB}, l.length = m.length → (∀ x ∈ l, oneE x = 0) → (∀ x ∈ m, oneE x = 0) → encLabs l = encLabs m → l = m
  | [], [], _, _, _, _ => rfl
  | [], _ :: _, h, _, _, _ => by simp at h
  | _ :: _, [], h, _, _, _ => by simp at h
  | x :: l, y :: m, hl, h1, h2, h => by
    unfold encLabs at h
    simp only [List.flatMap_cons] at h
    obtain ⟨hxy, h9⟩ := encLab_inj (h1 x (by simp)) (h2 y (by simp)) h
    rw [hxy, encLabs_inj (l := l) (m := m) (by simpa using hl) (fun z hz => h1 z (by simp [hz])) (fun z hz => h2 z (by simp [hz])) h9]
theorem encL_inj {l m : List LB} (hl : (rightE l).1 = 0) (hm : (rightE m).1 = 0) (h : encL l = encL m) : l = m := by
  obtain ⟨l1, l2⟩ := right_parts hl
  obtain ⟨m1, m2⟩ := right_parts hm
  unfold encL at h
  obtain ⟨e, h⟩ := uv_inj (by omega) (by omega) h
  exact encLabs_inj e l2 m2 h
theorem encL_bytes (l : List LB) : Bytes (encL l) := by
  intro x hx
  unfold encL encLabs at hx
  rcases List.mem_append.1 hx with hx | hx
  · exact uv_byte _ _ x hx
  · obtain ⟨y, _, hx⟩ := List.mem_flatMap.1 hx
    unfold encLab at hx
    simp only [List.mem_append] at hx
    rcases hx with (hx | hx) | (hx | hx)
    · exact uv_byte _ _ x hx
    · exact bytesOf_bytes _ x hx
    · exact uv_byte _ _ x hx
    · exact bytesOf_bytes _ x hx
/-! ### Signatures -/
/-- The labels by which a point is matched. -/
noncomputable def pickE (m : MT) (l : List LB) : List LB := bif m.f1 then l.filter fun x => (hasB m.f2 x.f0 == true) else l.filter fun x => (hasB (m.f2 ++ [nameS]) x.f0 == false)
noncomputable def sigE (m : MT) (l : List LB) : ByteArray := ofBytes (encL (pickE m l))
theorem pickE_right {l : List LB} (h : (rightE l).1 = 0) (m : MT) : (rightE (pickE m l)).1 = 0 := by
  unfold pickE
  cases m.f1
  · exact right_filter h _
  · exact right_filter h _
theorem sigE_inj {l k : List LB} (hl : (rightE l).1 = 0) (hk : (rightE k).1 = 0) {m : MT} (h : sigE m l = sigE m k) : pickE m l = pickE m k := by
  refine encL_inj (pickE_right hl m) (pickE_right hk m) ?_
  unfold sigE at h
  rw [← bytesOf_ofBytes (encL_bytes (pickE m l)), h, bytesOf_ofBytes (encL_bytes _)]
theorem signature_eq {l : List LB} (h : (rightE l).1 = 0) (m : MT) (hm : m.f2.length < 2147483000) : vec_signature l m = some (sigE m l) := by
  have hl := (right_parts h).1
  unfold vec_signature sigE
  have key : (bif m.f1 then (Option.bind (labels_Keep l m.f2) fun y12 => some y12.1) else (Option.bind (slices_Clone_f76 m.f2) fun y21 => Option.bind (app y21 [nameS]) fun zs34 => Option.bind (labels_Without l zs34) fun y44 => some y44.1)) = some (pickE m l) := by
    unfold pickE
    cases m.f1 with
    | true =>
      simp only [cond_true]
      rw [Keep_eq l _ (by omega) (by omega), keepE_right h]; rfl
    | false =>
      simp only [cond_false]
      unfold slices_Clone_f76
      rw [app_eq (by simp; omega)]
      simp only [Option.bind_some, List.nil_append]
      rw [app_eq (by simp; omega)]
      simp only [Option.bind_some]
      rw [Without_eq l _ (by omega) (by simp; omega), keepE_right h]; rfl
  unfold nameS at key
  rw [key]
  simp only [Option.bind_some]
  rw [Put_eq (by simp), if_pos (pickE_right h m)]
  rfl
/-! ### What is wrong of a match -/
noncomputable def namesB (l : List ByteArray) : Bool := l.all fun s => namedB s 64 false
theorem concat_two (a b : List ByteArray) (h : a.length + b.length < 2147483000) : slices_Concat [a, b] = some (a ++ b) := by
  have w1 : IntKind.wrap .i64 (0 + (a.length : Int)) = (a.length : Int) := by rw [wrap64 (by omega) (by omega)]; omega
  have w2 : IntKind.wrap .i64 ((a.length : Int) + (b.length : Int)) = ((a.length + b.length : Nat) : Int) := by rw [wrap64 (by omega) (by omega)]; omega
  have i0 : ix [a, b] (0 : Int) = some a := rfl
  have i1 : ix [a, b] (1 : Int) = some b := rfl
  have o1 : IntKind.wrap .i64 (0 + 1) = (1 : Int) := by decide
  have o2 : IntKind.wrap .i64 (1 + 1) = (2 : Int) := by decide
  have l1 : loopO (slices_Concat_l16 [a, b]) (0, 0) = some ((a.length + b.length : Nat) : Int) := by
    rw [loopO_step (s' := ((a.length : Int), 1)) ?_, loopO_step (s' := (((a.length + b.length : Nat) : Int), 2)) ?_, loopO_done (r := ((a.length + b.length : Nat) : Int)) ?_]
    · rfl
    · unfold slices_Concat_l16
      simp only [show decide ((1 : Int) < (([a, b].length : Nat) : Int)) = true from rfl, cond_true, i1, Option.bind_some, w2, o2]
      rw [show decide (((a.length + b.length : Nat) : Int) < 0) = false from decide_eq_false (by omega)]; rfl
    · unfold slices_Concat_l16
      simp only [show decide ((0 : Int) < (([a, b].length : Nat) : Int)) = true from rfl, cond_true, i0, Option.bind_some, w1, o1]
      rw [show decide ((a.length : Int) < 0) = false from decide_eq_false (by omega)]; rfl
  have l2 : loopO (slices_Concat_l67 [a, b]) ([], 0) = some (a ++ b) := by
    rw [loopO_step (s' := (a, 1)) ?_, loopO_step (s' := (a ++ b, 2)) ?_, loopO_done (r := a ++ b) ?_]
    · rfl
    · unfold slices_Concat_l67
      simp only [show decide ((1 : Int) < (([a, b].length : Nat) : Int)) = true from rfl, cond_true, i1, Option.bind_some, o2]
      rw [app_eq (by omega)]; rfl
    · unfold slices_Concat_l67
      simp only [show decide ((0 : Int) < (([a, b].length : Nat) : Int)) = true from rfl, cond_true, i0, Option.bind_some, o1]
      rw [app_eq (by simp; omega)]; rfl
  unfold slices_Concat
  rw [l1]
  simp only [Option.bind_some]
  have hg : slices_Grow ((a.length + b.length : Nat) : Int) = some [] := by
    unfold slices_Grow
    rw [show decide (((a.length + b.length : Nat) : Int) < 0) = false from decide_eq_false (by omega)]
    have w3 : IntKind.wrap .i64 (((a.length + b.length : Nat) : Int) - IntKind.wrap .i64 (0 - 0)) = ((a.length + b.length : Nat) : Int) := by
      rw [show IntKind.wrap .i64 (0 - 0) = 0 by decide, wrap64 (by omega) (by omega)]; omega
    simp only [cond_false, w3]
    by_cases h0 : a.length + b.length = 0
    · rw [h0]; rfl
    · rw [show decide (((a.length + b.length : Nat) : Int) > 0) = true from decide_eq_true (by omega)]
      simp only [cond_true]
      unfold zrow
      rw [if_pos ⟨by omega, by omega⟩]
      simp only [Option.bind_some]
      unfold lx
      rw [if_pos ⟨by omega, by omega, by omega⟩]
      rfl
  rw [hg]
  simp only [Option.bind_some]
  rw [l2]; rfl
theorem wrong_none {op : Int} {card : Int} {on : Bool} {names : List ByteArray} (hc : (card = 3 ∧ 13 ≤ op) ∨ (card = 0 ∧ op < 13)) (hn : names.length < 2147480000) : vec_wrong op (⟨card, on, names, []⟩ : MT) = some (bif namesB names then 0 else 40) := by
  unfold vec_wrong
  have h1 : (((decide (card < 0)) || (decide (card > 3))) || (!((card == 3) == (decide (op ≥ 13))))) = false := by
    rcases hc with ⟨rfl, h⟩ | ⟨rfl, h⟩
    · rw [show decide (op ≥ 13) = true from decide_eq_true h]; decide
    · rw [show decide (op ≥ 13) = false from decide_eq_false (by omega)]; decide
  simp only [h1, cond_false]
  rw [concat_two _ _ (by simp; omega)]
  simp only [Option.bind_some, List.append_nil]
  rw [up_any (n := names.length) (fun j => (names[j]?).any fun s => !(namedB s 64 false)) (40 : Int) (fun j hj => ?_) ?_, any_range]
  · have e : (names.any fun s => !(namedB s 64 false)) = !namesB names := by unfold namesB; rw [List.not_all_eq_any_not]
    rw [e]
    cases namesB names with
    | true =>
      simp only [Bool.not_true, cond_false, cond_true, Option.bind_some]
      rw [show (decide (((([] : List ByteArray).length : Nat) : Int) > 0)) = false from rfl]
      simp only [Bool.false_and, cond_false]
      rw [loopO_done (r := (Sum.inl () : Unit ⊕ Int)) (by unfold vec_wrong_l82; rfl)]; rfl
    | false => rfl
  · unfold vec_wrong_l43
    rw [show decide ((names.length : Int) < (names.length : Int)) = false from decide_eq_false (by omega)]; rfl
  · unfold vec_wrong_l43
    rw [show decide ((j : Int) < (names.length : Int)) = true from decide_eq_true (by omega)]
    simp only [cond_true, ix_nat, List.getElem?_eq_getElem hj, Option.bind_some, wrap_up (show j < 4294967296 by omega), Name_eq, Option.any_some]
    cases namedB names[j] 64 false <;> rfl
end Go.Proofs.YtkjkkimnjpodiaaGreatDoor

/- Plain laws: points alike; maps by texts; lists gathered. -/
set_option linter.unusedVariables false
set_option linter.unusedSimpArgs false
set_option maxRecDepth 100000
namespace Go.Proofs.YtkjkkimnjpodiaaGreatDoor
open Go.GB Go.Lib
/-- A point whose value's bits are known. -/
def FinP (p : PT) : Prop := p.f0.length ≤ 2147483000 ∧ ∃ x, p.f1 = some x
open Classical in
theorem Same_eq {a b : List PT} (ha : ∀ p ∈ a, FinP p) (hb : ∀ p ∈ b, FinP p) (hl : a.length < 2147483648) : tocsinref11_SamePoints a b = some (decide (a = b)) := by
  unfold tocsinref11_SamePoints
  by_cases hlen : a.length = b.length
  · rw [show ((a.length : Int) != (b.length : Int)) = false by simp [hlen]]
    simp only [cond_false]
    rw [up_any (n := a.length) (fun j => match a[j]?, b[j]? with | some x, some y => !(decide (x = y)) | _, _ => false) false (fun j hj => ?_) ?_]
    · cases hq : (List.range a.length).any (fun j => match a[j]?, b[j]? with | some x, some y => !(decide (x = y)) | _, _ => false) with
      | true =>
        obtain ⟨j, hj, hn⟩ := List.any_eq_true.1 hq
        have hj' := List.mem_range.1 hj
        have : a ≠ b := fun e => by
          subst e
          rw [List.getElem?_eq_getElem hj'] at hn
          simp at hn
        rw [decide_eq_false this]; rfl
      | false =>
        rw [List.any_eq_false] at hq
        have : a = b := by
          refine List.ext_getElem hlen fun j h1 h2 => ?_
          have := hq j (List.mem_range.2 h1)
          rw [List.getElem?_eq_getElem h1, List.getElem?_eq_getElem h2] at this
          simpa using this
        rw [decide_eq_true this]; rfl
    · unfold tocsinref11_SamePoints_l18
      rw [show decide ((a.length : Int) < (a.length : Int)) = false from decide_eq_false (by omega)]; rfl
    · have hj2 : j < b.length := by omega
      obtain ⟨x1, x, x2⟩ := ha a[j] (List.getElem_mem hj)
      obtain ⟨y1, y, y2⟩ := hb b[j] (List.getElem_mem hj2)
      unfold tocsinref11_SamePoints_l18
      rw [show decide ((j : Int) < (a.length : Int)) = true from decide_eq_true (by omega)]
      simp only [cond_true, ix_nat, List.getElem?_eq_getElem hj, List.getElem?_eq_getElem hj2, Option.bind_some, wrap_up (show j < 4294967296 by omega)]
      rw [refSame_eq _ _ (by omega)]
      simp only [Option.bind_some, x2, y2, fbits]
      have hiff : a[j] = b[j] ↔ cmpL a[j].f0 b[j].f0 = 0 ∧ x = y := by
        constructor
        · intro e
          rw [e] at x2 ⊢
          rw [x2] at y2
          exact ⟨cmpL_self _, by cases y2; rfl⟩
        · rintro ⟨e1, e2⟩
          have := cmpL_zero e1
          revert x2 y2 this
          generalize a[j] = p
          generalize b[j] = q
          obtain ⟨p1, p2⟩ := p
          obtain ⟨q1, q2⟩ := q
          rintro h1 h2 h3
          simp only at h1 h2 h3
          rw [h1, h2, h3, e2]
      by_cases h0 : cmpL a[j].f0 b[j].f0 = 0
      · by_cases hxy : x = y
        · rw [decide_eq_true h0, decide_eq_true (hiff.2 ⟨h0, hxy⟩), hxy]
          simp
        · rw [decide_eq_true h0, decide_eq_false (fun e => hxy (hiff.1 e).2)]
          have : ((x : Int) != (y : Int)) = true := bne_iff_ne.2 fun e => hxy (by omega)
          simp [this]
      · rw [decide_eq_false h0, decide_eq_false (fun e => h0 (hiff.1 e).1)]
        rfl
  · rw [show ((a.length : Int) != (b.length : Int)) = true by simpa using fun e : (a.length : Int) = b.length => hlen (by omega), decide_eq_false (fun e => hlen (by rw [e]))]
    rfl
theorem Same_self {a : List PT} (ha : ∀ p ∈ a, FinP p) (hl : a.length < 2147483648) : tocsinref11_SamePoints a a = some true := by
  rw [Same_eq ha ha hl]; simp
/-! ### Maps by texts -/
theorem strBeq (a b : ByteArray) : Ky.str.beq a b = true ↔ a = b := ba_beq
theorem mget_mput {υ : Type} (k : ByteArray) (v : υ) (k' : ByteArray) : ∀ m : List (ByteArray × υ), mget Ky.str (mput Ky.str m k v) k' = bif Ky.str.beq k' k then some v else mget Ky.str m k'
  | [] => rfl
  | (k1, v1) :: m => by
    unfold mput
    cases h1 : Ky.str.beq k k1 with
    | true =>
      obtain rfl := (strBeq _ _).1 h1
      simp only [cond_true, mget]
      cases Ky.str.beq k' k <;> rfl
    | false =>
      simp only [cond_false, mget]
      rw [mget_mput k v k' m]
      cases h2 : Ky.str.beq k' k1 with
      | true =>
        obtain rfl := (strBeq _ _).1 h2
        cases h3 : Ky.str.beq k' k with
        | true => obtain rfl := (strBeq _ _).1 h3; rw [h1] at h2; cases h2
        | false => rfl
      | false => rfl
end Go.Proofs.YtkjkkimnjpodiaaGreatDoor

/- Plain laws: and, or, unless. -/
set_option linter.unusedVariables false
set_option linter.unusedSimpArgs false
set_option maxRecDepth 100000
namespace Go.Proofs.YtkjkkimnjpodiaaGreatDoor
open Go.GB Go.Lib
/-- Is a point matched by one of some? -/
noncomputable def inB (m : MT) (r : List PT) (x : PT) : Bool := r.any fun y => Ky.str.beq (sigE m x.f0) (sigE m y.f0)
noncomputable def setM (m : MT) (l : List PT) : List (ByteArray × Bool) := l.foldl (fun acc x => mput Ky.str acc (sigE m x.f0) true) []
theorem setM_get (m : MT) (k : ByteArray) : ∀ (l : List PT) (acc : List (ByteArray × Bool)), (∀ v, mget Ky.str acc k = some v → v = true) →
    (mget Ky.str (l.foldl (fun acc x => mput Ky.str acc (sigE m x.f0) true) acc) k).getD false = ((mget Ky.str acc k).getD false || l.any fun y => Ky.str.beq k (sigE m y.f0))
  | [], acc, _ => by simp
  | x :: l, acc, h => by
    rw [List.foldl_cons, setM_get m k l _ (fun v hv => by
      rw [mget_mput] at hv
      cases hb : Ky.str.beq k (sigE m x.f0) with
      | true => rw [hb] at hv; cases hv; rfl
      | false => rw [hb] at hv; exact h v hv)]
    rw [mget_mput]
    cases hb : Ky.str.beq k (sigE m x.f0) with
    | true => simp [hb]
    | false => simp [hb]
theorem inB_get (m : MT) (r : List PT) (x : PT) : (mget Ky.str (setM m r) (sigE m x.f0)).getD false = inB m r x := by
  unfold setM inB
  rw [setM_get m _ r [] (fun v h => by cases h)]
  simp [mget]
theorem vsort_right {l : List PT} (h : ∀ p ∈ l, (rightE p.f0).1 = 0) : ∀ p ∈ vsort l, (rightE p.f0).1 = 0 := fun p hp => h p ((vsort_perm l).mem_iff.1 hp)
end Go.Proofs.YtkjkkimnjpodiaaGreatDoor

/- Plain laws: operators of two vectors, one to one. -/
set_option linter.unusedVariables false
set_option linter.unusedSimpArgs false
set_option maxRecDepth 100000
namespace Go.Proofs.YtkjkkimnjpodiaaGreatDoor
open Go.GB Go.Lib
def oneF : Fl := some 4607182418800017408
noncomputable def valE (op : Int) (a b : Fl) : Fl := if op = 1 then vec_told (farith .add a b) else vec_told (farith .mul a b)
noncomputable def holdE (op : Int) (a b : Fl) : Bool := ((vec_Holds op a b).getD (false, 0)).1
theorem Holds_eq {op : Int} (h : 7 ≤ op ∧ op ≤ 12) (a b : Fl) : vec_Holds op a b = some (holdE op a b, 0) := by
  have : op = 7 ∨ op = 8 ∨ op = 9 ∨ op = 10 ∨ op = 11 ∨ op = 12 := by omega
  rcases this with rfl | rfl | rfl | rfl | rfl | rfl <;> rfl
theorem Arith_eq {op : Int} (h : op = 1 ∨ op = 3) (a b : Fl) : vec_Arith op a b = some (valE op a b, 0) := by
  rcases h with rfl | rfl <;> rfl
noncomputable def nlE (l : List LB) : List LB := l.filter fun x => (hasB [nameS] x.f0 == false)
theorem nameless_eq {l : List LB} (h : (rightE l).1 = 0) : vec_nameless l = some (nlE l) := by
  have hl := (right_parts h).1
  unfold vec_nameless
  have := Without_eq l [nameS] (by omega) (by simp)
  unfold nameS at this
  rw [this, keepE_right h]; rfl
noncomputable def shownE (m : MT) (l : List LB) : List LB := bif m.f1 then l.filter fun x => (hasB m.f2 x.f0 == true) else l.filter fun x => (hasB m.f2 x.f0 == false)
def OpOk (op : Int) : Prop := op = 1 ∨ op = 3 ∨ (7 ≤ op ∧ op ≤ 12)
noncomputable def resE (op : Int) (p q : PT) (flag : Bool) : Option PT :=
  if op ≤ 6 then some ⟨nlE p.f0, valE op p.f1 q.f1⟩ else bif flag then some ⟨nlE p.f0, bif holdE op p.f1 q.f1 then oneF else some 0⟩ else bif holdE op p.f1 q.f1 then some ⟨p.f0, p.f1⟩ else none
theorem result_eq {op : Int} (ho : OpOk op) {p : PT} (hp : (rightE p.f0).1 = 0) (q : PT) (flag : Bool) :
    ∃ x ok, vec_result op p.f1 q.f1 p.f0 p.f1 flag = some (x, ok) ∧ resE op p q flag = (bif ok then some x else none) ∧ (ok = true → (rightE x.f0).1 = 0) := by
  have hn : (rightE (nlE p.f0)).1 = 0 := right_filter hp _
  unfold vec_result resE
  rcases ho with ho | ho | ho
  · rw [show decide (op ≤ 6) = true from decide_eq_true (by omega), if_pos (by omega)]
    simp only [cond_true]
    rw [Arith_eq (.inl ho), nameless_eq hp]
    exact ⟨_, true, rfl, rfl, fun _ => hn⟩
  · rw [show decide (op ≤ 6) = true from decide_eq_true (by omega), if_pos (by omega)]
    simp only [cond_true]
    rw [Arith_eq (.inr ho), nameless_eq hp]
    exact ⟨_, true, rfl, rfl, fun _ => hn⟩
  · rw [show decide (op ≤ 6) = false from decide_eq_false (by omega), if_neg (by omega)]
    simp only [cond_false]
    rw [Holds_eq ho]
    simp only [Option.bind_some]
    cases flag with
    | true =>
      cases holdE op p.f1 q.f1 with
      | true => simp only [Bool.and_true, cond_true]; rw [nameless_eq hp]; exact ⟨_, true, rfl, rfl, fun _ => hn⟩
      | false => simp only [Bool.and_false, cond_false, cond_true]; rw [nameless_eq hp]; exact ⟨_, true, rfl, rfl, fun _ => hn⟩
    | false =>
      simp only [Bool.false_and, cond_false]
      cases holdE op p.f1 q.f1 with
      | true => exact ⟨_, true, rfl, rfl, fun _ => hp⟩
      | false => exact ⟨_, false, rfl, rfl, fun h => by cases h⟩
theorem shown_eq {x q : PT} (h : (rightE x.f0).1 = 0) (on : Bool) (names : List ByteArray) (hn : names.length < 2147480000) : vec_shown x q (⟨0, on, names, []⟩ : MT) = some (shownE (⟨0, on, names, []⟩ : MT) x.f0) := by
  have hl := (right_parts h).1
  unfold vec_shown shownE
  simp only [bne_self_eq_false, cond_false]
  cases on with
  | true => simp only [cond_true]; rw [Keep_eq _ _ (by omega) (by omega), keepE_right h]; rfl
  | false => simp only [cond_false]; rw [Without_eq _ _ (by omega) (by omega), keepE_right h]; rfl
/-! ### The few, by what they are matched by -/
noncomputable def mapOf (m : MT) (r : List PT) : List (ByteArray × PT) := r.foldl (fun acc x => mput Ky.str acc (sigE m x.f0) x) []
theorem mapOf_get (m : MT) (k : ByteArray) : ∀ (r : List PT) (acc : List (ByteArray × PT)),
    (∀ v, mget Ky.str (r.foldl (fun acc x => mput Ky.str acc (sigE m x.f0) x) acc) k = some v → (v ∈ r ∧ k = sigE m v.f0) ∨ mget Ky.str acc k = some v) ∧
    (mget Ky.str (r.foldl (fun acc x => mput Ky.str acc (sigE m x.f0) x) acc) k = none → mget Ky.str acc k = none ∧ ∀ q ∈ r, k ≠ sigE m q.f0)
  | [], acc => ⟨fun v h => .inr h, fun h => ⟨h, fun q hq => by cases hq⟩⟩
  | x :: r, acc => by
    rw [List.foldl_cons]
    obtain ⟨h1, h2⟩ := mapOf_get m k r (mput Ky.str acc (sigE m x.f0) x)
    refine ⟨fun v hv => ?_, fun hn => ?_⟩
    · rcases h1 v hv with ⟨q1, q2⟩ | q
      · exact .inl ⟨List.mem_cons_of_mem _ q1, q2⟩
      · rw [mget_mput] at q
        cases hb : Ky.str.beq k (sigE m x.f0) with
        | true => rw [hb] at q; cases q; exact .inl ⟨by simp, (strBeq _ _).1 hb⟩
        | false => rw [hb] at q; exact .inr q
    · obtain ⟨q1, q2⟩ := h2 hn
      rw [mget_mput] at q1
      cases hb : Ky.str.beq k (sigE m x.f0) with
      | true => rw [hb] at q1; cases q1
      | false =>
        rw [hb] at q1
        refine ⟨q1, fun q hq => ?_⟩
        rcases List.mem_cons.1 hq with rfl | hq1
        · intro e; rw [(strBeq _ _).2 e] at hb; cases hb
        · exact q2 q hq1
noncomputable def findQ (m : MT) (r : List PT) (p : PT) : Option PT := mget Ky.str (mapOf m r) (sigE m p.f0)
theorem findQ_some {m : MT} {r : List PT} {p q : PT} (h : findQ m r p = some q) : q ∈ r ∧ sigE m p.f0 = sigE m q.f0 := by
  rcases (mapOf_get m _ r []).1 q h with h | h
  · exact h
  · cases h
theorem findQ_none {m : MT} {r : List PT} {p : PT} (h : findQ m r p = none) : ∀ q ∈ r, sigE m p.f0 ≠ sigE m q.f0 := ((mapOf_get m _ r []).2 h).2
def SigDist (m : MT) (r : List PT) : Prop := r.Pairwise fun x y => sigE m x.f0 ≠ sigE m y.f0
theorem SigDist.eq {m : MT} {r : List PT} (h : SigDist m r) {x y : PT} (hx : x ∈ r) (hy : y ∈ r) (e : sigE m x.f0 = sigE m y.f0) : x = y := by
  induction r with
  | nil => cases hx
  | cons z l ih =>
    obtain ⟨h1, h2⟩ := List.pairwise_cons.1 h
    rcases List.mem_cons.1 hx with rfl | hx1
    · rcases List.mem_cons.1 hy with rfl | hy1
      · rfl
      · exact absurd e (h1 y hy1)
    · rcases List.mem_cons.1 hy with rfl | hy1
      · exact absurd e.symm (h1 x hx1)
      · exact ih h2 hx1 hy1
theorem findQ_of {m : MT} {r : List PT} (hd : SigDist m r) {p q : PT} (hq : q ∈ r) (e : sigE m p.f0 = sigE m q.f0) : findQ m r p = some q := by
  cases h : findQ m r p with
  | none => exact absurd e (findQ_none h q hq)
  | some q' =>
    obtain ⟨h1, h2⟩ := findQ_some h
    rw [hd.eq h1 hq (h2.symm.trans e)]
theorem sigDist_snoc {m : MT} {r : List PT} {x : PT} : SigDist m (r ++ [x]) ↔ SigDist m r ∧ ∀ q ∈ r, sigE m x.f0 ≠ sigE m q.f0 := by
  unfold SigDist
  rw [List.pairwise_append]
  constructor
  · rintro ⟨h1, _, h3⟩; exact ⟨h1, fun q hq e => h3 q hq x (by simp) e.symm⟩
  · rintro ⟨h1, h2⟩; exact ⟨h1, List.pairwise_singleton _ _, fun q hq y hy e => by simp at hy; subst hy; exact h2 q hq e.symm⟩
open Classical in
theorem few_loop {L R : List PT} {m : MT} (hR : ∀ p ∈ R, (rightE p.f0).1 = 0) (lR : R.length ≤ 1000) (hm : m.f2.length < 2147483000) : ∀ (d i : Nat), R.length - i = d → i ≤ R.length → SigDist m (R.take i) →
    loopO (vec_Binary_l99 m (L, R)) (mapOf m (R.take i), (i : Int)) = some (if SigDist m R then .inl (mapOf m R) else .inr ([], 150)) := by
  intro d
  induction d with
  | zero =>
    intro i hd hi hs
    obtain rfl : i = R.length := by omega
    rw [List.take_length] at hs ⊢
    rw [if_pos hs]
    refine loopO_done ?_
    unfold vec_Binary_l99
    rw [show decide ((mapOf m R, (R.length : Int)).2 < ((L, R).2.length : Int)) = false from decide_eq_false (by show ¬ (R.length : Int) < (R.length : Int); omega)]; rfl
  | succ d ih =>
    intro i hd hi hs
    have hlt : i < R.length := by omega
    have hb : vec_Binary_l99 m (L, R) (mapOf m (R.take i), (i : Int)) = some (bif (findQ m (R.take i) R[i]).isSome then .inr (.inr ([], 150)) else .inl (mapOf m (R.take (i + 1)), ((i + 1 : Nat) : Int))) := by
      unfold vec_Binary_l99
      rw [show decide ((mapOf m (R.take i), (i : Int)).2 < ((L, R).2.length : Int)) = true from decide_eq_true (by show (i : Int) < (R.length : Int); omega)]
      simp only [cond_true, ix_nat, List.getElem?_eq_getElem hlt, Option.bind_some, wrap_up (show i < 4294967296 by omega)]
      rw [signature_eq (hR _ (List.getElem_mem hlt)) m hm]
      simp only [Option.bind_some]
      have e : mapOf m (R.take (i + 1)) = mput Ky.str (mapOf m (R.take i)) (sigE m R[i].f0) R[i] := by
        unfold mapOf
        rw [show R.take (i + 1) = R.take i ++ [R[i]] by rw [List.take_add_one, List.getElem?_eq_getElem hlt]; rfl, List.foldl_append]; rfl
      rw [e]
      unfold findQ
      cases (mget Ky.str (mapOf m (R.take i)) (sigE m R[i].f0)).isSome <;> rfl
    have htake : R.take (i + 1) = R.take i ++ [R[i]] := by rw [List.take_add_one, List.getElem?_eq_getElem hlt]; rfl
    cases hq : findQ m (R.take i) R[i] with
    | some q =>
      rw [hq] at hb
      rw [loopO_done hb]
      obtain ⟨h1, h2⟩ := findQ_some hq
      rw [if_neg fun hS => ?_]
      have h3 : SigDist m (R.take (i + 1)) := hS.sublist (List.take_sublist _ _)
      rw [htake, sigDist_snoc] at h3
      exact h3.2 q h1 h2
    | none =>
      rw [hq] at hb
      rw [loopO_step hb]
      refine ih (i + 1) (by omega) (by omega) ?_
      rw [htake, sigDist_snoc]
      exact ⟨hs, findQ_none hq⟩
/-! ### The many -/
noncomputable def outE (op : Int) (m : MT) (flag : Bool) (r : List PT) (p : PT) : Option PT := (findQ m r p).bind fun q => (resE op p q flag).map fun x => ⟨shownE m x.f0, x.f1⟩
noncomputable def metE (op : Int) (m : MT) (flag : Bool) (r l : List PT) : List PT := l.filter fun p => (outE op m flag r p).isSome
theorem setM_snoc (m : MT) (l : List PT) (x : PT) : setM m (l ++ [x]) = mput Ky.str (setM m l) (sigE m x.f0) true := by simp [setM, List.foldl_append]
open Classical in
theorem many_loop {L R : List PT} {op : Int} (ho : OpOk op) {on : Bool} {names : List ByteArray} {flag : Bool} (hL : ∀ p ∈ L, (rightE p.f0).1 = 0) (lL : L.length ≤ 1000) (hm : names.length < 2147480000) : ∀ (d i : Nat), L.length - i = d → i ≤ L.length → SigDist (⟨0, on, names, []⟩ : MT) (metE op ⟨0, on, names, []⟩ flag R (L.take i)) →
    loopO (vec_Binary_l169 op ⟨0, on, names, []⟩ flag (L, R) (mapOf ⟨0, on, names, []⟩ R)) (setM ⟨0, on, names, []⟩ (metE op ⟨0, on, names, []⟩ flag R (L.take i)), (L.take i).filterMap (outE op ⟨0, on, names, []⟩ flag R), (i : Int)) =
      some (if SigDist (⟨0, on, names, []⟩ : MT) (metE op ⟨0, on, names, []⟩ flag R L) then .inl (L.filterMap (outE op ⟨0, on, names, []⟩ flag R)) else .inr ([], 150)) := by
  generalize hM : (⟨0, on, names, []⟩ : MT) = M
  have hM2 : M.f2.length < 2147480000 := by rw [← hM]; exact hm
  have hM0 : M.f0 = 0 := by rw [← hM]
  have hsh : ∀ {x q : PT}, (rightE x.f0).1 = 0 → vec_shown x q M = some (shownE M x.f0) := fun {x q} hx => by rw [← hM]; exact shown_eq hx on names hm
  intro d
  induction d with
  | zero =>
    intro i hd hi hs
    obtain rfl : i = L.length := by omega
    rw [List.take_length] at hs ⊢
    rw [if_pos hs]
    refine loopO_done ?_
    unfold vec_Binary_l169
    rw [show decide ((setM M (metE op M flag R L), L.filterMap (outE op M flag R), (L.length : Int)).2.2 < ((L, R).1.length : Int)) = false from decide_eq_false (by show ¬ (L.length : Int) < (L.length : Int); omega)]; rfl
  | succ d ih =>
    intro i hd hi hs
    have hlt : i < L.length := by omega
    have htake : L.take (i + 1) = L.take i ++ [L[i]] := by rw [List.take_add_one, List.getElem?_eq_getElem hlt]; rfl
    have hfl : ((L.take i).filterMap (outE op M flag R)).length ≤ i := Nat.le_trans (List.length_filterMap_le _ _) (by rw [List.length_take]; omega)
    have hb : vec_Binary_l169 op M flag (L, R) (mapOf M R) (setM M (metE op M flag R (L.take i)), (L.take i).filterMap (outE op M flag R), (i : Int)) =
        some (match outE op M flag R L[i] with
          | none => .inl (setM M (metE op M flag R (L.take i)), (L.take i).filterMap (outE op M flag R), ((i + 1 : Nat) : Int))
          | some z => bif inB M (metE op M flag R (L.take i)) L[i] then .inr (.inr ([], 150)) else .inl (mput Ky.str (setM M (metE op M flag R (L.take i))) (sigE M L[i].f0) true, (L.take i).filterMap (outE op M flag R) ++ [z], ((i + 1 : Nat) : Int))) := by
      unfold vec_Binary_l169
      rw [show decide ((setM M (metE op M flag R (L.take i)), (L.take i).filterMap (outE op M flag R), (i : Int)).2.2 < ((L, R).1.length : Int)) = true from decide_eq_true (by show (i : Int) < (L.length : Int); omega)]
      simp only [cond_true, ix_nat, List.getElem?_eq_getElem hlt, Option.bind_some, wrap_up (show i < 4294967296 by omega)]
      rw [signature_eq (hL _ (List.getElem_mem hlt)) M (by omega)]
      simp only [Option.bind_some]
      have hq : mget Ky.str (mapOf M R) (sigE M L[i].f0) = findQ M R L[i] := rfl
      rw [hq]
      unfold outE
      cases findQ M R L[i] with
      | none => rfl
      | some q =>
        simp only [Option.isSome_some, Bool.not_true, cond_false, hM0, Option.bind_some, Option.getD_some]
        rw [show ((0 : Int) == 2) = false from rfl]
        simp only [cond_false, Option.bind_some]
        obtain ⟨x, ok, h1, h2, h3⟩ := result_eq ho (hL _ (List.getElem_mem hlt)) q flag
        rw [h1, h2]
        cases ok with
        | false => rfl
        | true =>
          simp only [Option.bind_some, Bool.not_true, cond_false, cond_true, beq_self_eq_true, inB_get, Option.map_some]
          cases hin : inB M (metE op M flag R (L.take i)) L[i] with
          | true =>
            have e1 : inB M (List.filter (fun p => ((findQ M R p).bind fun q => (resE op p q flag).map fun x => (⟨shownE M x.f0, x.f1⟩ : PT)).isSome) (L.take i)) L[i] = true := hin
            simp only [cond_true]
            first | rfl | (rw [e1]; rfl) | (simp only [e1]; rfl)
          | false =>
            simp only [cond_false]
            rw [hsh (h3 rfl)]
            simp only [Option.bind_some]
            rw [app_eq (by simp only [List.length_cons, List.length_nil]; unfold outE at hfl; omega)]
            rfl
    have hmet : metE op M flag R (L.take (i + 1)) = metE op M flag R (L.take i) ++ (bif (outE op M flag R L[i]).isSome then [L[i]] else []) := by
      unfold metE
      rw [htake, List.filter_append]
      rw [List.filter_cons]
      cases (outE op M flag R L[i]).isSome <;> rfl
    have hfm : (L.take (i + 1)).filterMap (outE op M flag R) = (L.take i).filterMap (outE op M flag R) ++ (outE op M flag R L[i]).toList := by
      rw [htake, List.filterMap_append]
      cases h : outE op M flag R L[i] <;> simp [h]
    cases hz : outE op M flag R L[i] with
    | none =>
      rw [hz] at hb hmet hfm
      simp only [Option.isSome_none, cond_false, List.append_nil, Option.toList_none] at hmet hfm
      rw [loopO_step hb, ← hmet, ← hfm]
      exact ih (i + 1) (by omega) (by omega) (by rw [hmet]; exact hs)
    | some z =>
      rw [hz] at hb hmet hfm
      simp only [Option.isSome_some, cond_true, Option.toList_some] at hmet hfm
      cases hin : inB M (metE op M flag R (L.take i)) L[i] with
      | true =>
        rw [hin] at hb
        rw [loopO_done hb, if_neg fun hS => ?_]
        have h3 : SigDist M (metE op M flag R (L.take (i + 1))) := by
          refine List.Pairwise.sublist ?_ hS
          unfold metE
          exact (List.take_sublist _ _).filter _
        rw [hmet, sigDist_snoc] at h3
        obtain ⟨q, q1, q2⟩ := List.any_eq_true.1 hin
        exact h3.2 q q1 ((strBeq _ _).1 q2)
      | false =>
        rw [hin] at hb
        rw [loopO_step hb, ← setM_snoc, ← hmet, ← hfm]
        refine ih (i + 1) (by omega) (by omega) ?_
        rw [hmet, sigDist_snoc]
        refine ⟨hs, fun q hq e => ?_⟩
        have : inB M (metE op M flag R (L.take i)) L[i] = true := List.any_eq_true.2 ⟨q, hq, (strBeq _ _).2 e⟩
        rw [this] at hin; cases hin
open Classical in
/-- What an operator of two vectors, one to one, answers. -/
noncomputable def binO (op : Int) (m : MT) (flag : Bool) (l r : List PT) : List PT × Int :=
  if namesB m.f2 = false then ([], 40) else if (vecE l).2 ≠ 0 then ([], (vecE l).2) else if (vecE r).2 ≠ 0 then ([], (vecE r).2) else
    if ¬ SigDist m (vsort r) then ([], 150) else if ¬ SigDist m (metE op m flag (vsort r) (vsort l)) then ([], 150) else vecE ((vsort l).filterMap (outE op m flag (vsort r)))
theorem Binary_one {op : Int} (ho : OpOk op) (l r : List PT) (on : Bool) (names : List ByteArray) (hn : names.length < 2147480000) (flag : Bool) :
    vec_Binary op l r (⟨0, on, names, []⟩ : MT) flag = some (binO op ⟨0, on, names, []⟩ flag l r) := by
  have h1 : 1 ≤ op ∧ op ≤ 12 := by rcases ho with h | h | h <;> omega
  unfold vec_Binary binO
  rw [show ((decide (op < 1)) || (decide (op > 15))) = false by rw [decide_eq_false (by omega), decide_eq_false (by omega)]; rfl]
  simp only [cond_false]
  rw [wrong_none (.inr ⟨rfl, by omega⟩) hn]
  simp only [Option.bind_some]
  cases hnb : namesB names with
  | false => simp
  | true =>
    rw [if_neg (by simp)]
    simp only [cond_true, bne_self_eq_false, cond_false, Vector_eq, Option.bind_some]
    by_cases hl : (vecE l).2 = 0
    · rw [if_neg (by simpa using hl), show ((vecE l).2 != 0) = false by simpa using hl]
      simp only [cond_false]
      by_cases hr : (vecE r).2 = 0
      · rw [if_neg (by simpa using hr), show ((vecE r).2 != 0) = false by simpa using hr]
        simp only [cond_false]
        rw [show decide (op ≥ 13) = false from decide_eq_false (by omega)]
        simp only [cond_false]
        rw [show ((0 : Int) == 2) = false from rfl]
        simp only [cond_false, Option.bind_some]
        obtain ⟨a1, a2, a3, a4⟩ := vecE_ok hl
        obtain ⟨b1, b2, b3, b4⟩ := vecE_ok hr
        rw [a4, b4]
        have hf := few_loop (L := vsort l) (R := vsort r) (m := (⟨0, on, names, []⟩ : MT)) (vsort_right b2) (by rw [vsort_len]; exact b1) (by show names.length < _; omega) _ 0 rfl (by omega) (by rw [List.take_zero]; exact .nil)
        rw [List.take_zero] at hf
        rw [show (mapOf (⟨0, on, names, []⟩ : MT) [], ((0 : Nat) : Int)) = (([] : List (ByteArray × PT)), (0 : Int)) from rfl] at hf
        rw [hf]
        by_cases hS : SigDist (⟨0, on, names, []⟩ : MT) (vsort r)
        · rw [if_pos hS, if_neg (by simpa using hS)]
          simp only [Option.bind_some]
          have hg := many_loop (L := vsort l) (R := vsort r) ho (on := on) (names := names) (flag := flag) (vsort_right a2) (by rw [vsort_len]; exact a1) hn _ 0 rfl (by omega) (by rw [List.take_zero]; exact .nil)
          rw [List.take_zero] at hg
          rw [show (setM (⟨0, on, names, []⟩ : MT) (metE op ⟨0, on, names, []⟩ flag (vsort r) []), ([] : List PT).filterMap (outE op ⟨0, on, names, []⟩ flag (vsort r)), ((0 : Nat) : Int)) = (([] : List (ByteArray × Bool)), ([] : List PT), (0 : Int)) from rfl] at hg
          rw [hg]
          by_cases hT : SigDist (⟨0, on, names, []⟩ : MT) (metE op ⟨0, on, names, []⟩ flag (vsort r) (vsort l))
          · rw [if_pos hT, if_neg (by simpa using hT)]
            simp only [Option.bind_some, Vector_eq]
          · rw [if_neg hT, if_pos hT]; rfl
        · rw [if_neg hS, if_pos hS]; rfl
      · rw [if_pos hr, show ((vecE r).2 != 0) = true by simpa using hr]; rfl
    · rw [if_pos hl, show ((vecE l).2 != 0) = true by simpa using hl]; rfl
end Go.Proofs.YtkjkkimnjpodiaaGreatDoor

set_option linter.unusedVariables false
set_option linter.unusedSimpArgs false
set_option maxRecDepth 100000
namespace Go.Proofs.YtkjkkimnjpodiaaGreatDoor
open Go.GB
noncomputable def slices_Grow_c (a1 : Int) : Option (List ByteArray) :=
  bif (decide (a1 < 0)) then
  (none)
  else
  (Option.bind (bif (decide ((IntKind.wrap .i64 (a1 - (IntKind.wrap .i64 (0 - 0)))) > 0)) then
      (Option.bind (zrow ((⟨#[]⟩ : ByteArray) : ByteArray) (IntKind.wrap .i64 (a1 - (IntKind.wrap .i64 (0 - 0))))) fun (zs13 : List ByteArray) =>
        Option.bind (lx zs13 0 0) fun (l20 : List ByteArray) =>
        some l20)
      else
      (some [])) fun (j2 : (List ByteArray)) =>
    some j2)
theorem slices_Grow_ev (a1 : Int) : OLe (slices_Grow_c a1) (slices_Grow a1) := by
  unfold slices_Grow_c slices_Grow
  exact (OLe.cond (OLe.refl _) (OLe.bind (OLe.cond (OLe.bind (OLe.refl _) (fun _ => (OLe.bind (OLe.refl _) (fun _ => (OLe.refl _))))) (OLe.refl _)) (fun _ => (OLe.refl _))))
noncomputable def slices_Concat_l16_c (a0 : List (List ByteArray)) : (Int × Int) → Option ((Int × Int) ⊕ (Int)) := fun s7 =>
  bif (decide (s7.2 < (a0.length : Int))) then
  (Option.bind (ix a0 s7.2) fun (x19 : List ByteArray) =>
    bif (decide ((IntKind.wrap .i64 (s7.1 + (x19.length : Int))) < 0)) then
    (none)
    else
    (some (Sum.inl ((IntKind.wrap .i64 (s7.1 + (x19.length : Int))), (IntKind.wrap .i64 (s7.2 + 1))))))
  else
  (some (Sum.inr s7.1))
theorem slices_Concat_l16_ev (a0 : List (List ByteArray)) (s7 : Int × Int) : OLe (slices_Concat_l16_c a0 s7) (slices_Concat_l16 a0 s7) := by
  unfold slices_Concat_l16_c slices_Concat_l16
  exact (OLe.cond (OLe.bind (OLe.refl _) (fun _ => (OLe.cond (OLe.refl _) (OLe.refl _)))) (OLe.refl _))
noncomputable def slices_Concat_l67_c (a0 : List (List ByteArray)) : ((List ByteArray) × Int) → Option (((List ByteArray) × Int) ⊕ ((List ByteArray))) := fun s50 =>
  bif (decide (s50.2 < (a0.length : Int))) then
  (Option.bind (ix a0 s50.2) fun (x70 : List ByteArray) =>
    Option.bind (app s50.1 x70) fun (zs81 : List ByteArray) =>
    some (Sum.inl (zs81, (IntKind.wrap .i64 (s50.2 + 1)))))
  else
  (some (Sum.inr s50.1))
theorem slices_Concat_l67_ev (a0 : List (List ByteArray)) (s50 : (List ByteArray) × Int) : OLe (slices_Concat_l67_c a0 s50) (slices_Concat_l67 a0 s50) := by
  unfold slices_Concat_l67_c slices_Concat_l67
  exact (OLe.cond (OLe.bind (OLe.refl _) (fun _ => (OLe.bind (OLe.refl _) (fun _ => (OLe.refl _))))) (OLe.refl _))
noncomputable def slices_Concat_c (a0 : List (List ByteArray)) : Option (List ByteArray) :=
  Option.bind (loopF 1000000 (slices_Concat_l16_c a0) (0, 0)) fun (r5 : Int) =>
  Option.bind (slices_Grow_c r5) fun (y31 : (List ByteArray)) =>
  Option.bind (loopF 1000000 (slices_Concat_l67_c a0) (y31, 0)) fun (r48 : (List ByteArray)) =>
  some r48
theorem slices_Concat_ev (a0 : List (List ByteArray)) : OLe (slices_Concat_c a0) (slices_Concat a0) := by
  unfold slices_Concat_c slices_Concat
  exact (OLe.bind (OLe.loop (fun _ => slices_Concat_l16_ev _ _)) (fun _ => (OLe.bind (slices_Grow_ev _) (fun _ => (OLe.bind (OLe.loop (fun _ => slices_Concat_l67_ev _ _)) (fun _ => (OLe.refl _)))))))
noncomputable def labels_named_l33_c (a2 : Bool) (l11 : List Int) : Int → Option ((Int) ⊕ ((Unit) ⊕ (Bool))) := fun s23 =>
  bif (decide (s23 < (l11.length : Int))) then
  (Option.bind (ix l11 s23) fun (x36 : Int) =>
    bif (((!(labels_letter x36)) && (!(labels_digit x36))) && (!(a2 && (x36 == 58)))) then
    (some (Sum.inr (Sum.inr false)))
    else
    (some (Sum.inl (IntKind.wrap .i64 (s23 + 1)))))
  else
  (some (Sum.inr (Sum.inl ())))
theorem labels_named_l33_ev (a2 : Bool) (l11 : List Int) (s23 : Int) : OLe (labels_named_l33_c a2 l11 s23) (labels_named_l33 a2 l11 s23) := by
  unfold labels_named_l33_c labels_named_l33
  exact (OLe.cond (OLe.bind (OLe.refl _) (fun _ => (OLe.cond (OLe.refl _) (OLe.refl _)))) (OLe.refl _))
noncomputable def labels_named_c (a0 : ByteArray) (a1 : Int) (a2 : Bool) : Option Bool :=
  Option.bind (bif (a0.toList == (⟨#[]⟩ : ByteArray).toList) then
    (some true)
    else
    (bif (decide ((a0.size : Int) > a1)) then
      (some true)
      else
      (Option.bind (bx a0 0) fun (c8 : Int) =>
        some (labels_digit c8)))) fun (j1 : Bool) =>
  bif j1 then
  (some false)
  else
  (Option.bind (sb a0) fun (l11 : List Int) =>
    Option.bind (loopF 1000000 (labels_named_l33_c a2 l11) 0) fun (r21 : (Unit) ⊕ (Bool)) =>
    match r21 with
    | Sum.inl r29 => some true
    | Sum.inr v54 => some v54)
theorem labels_named_ev (a0 : ByteArray) (a1 : Int) (a2 : Bool) : OLe (labels_named_c a0 a1 a2) (labels_named a0 a1 a2) := by
  unfold labels_named_c labels_named
  exact (OLe.bind (OLe.cond (OLe.refl _) (OLe.cond (OLe.refl _) (OLe.bind (OLe.refl _) (fun _ => (OLe.refl _))))) (fun _ => (OLe.cond (OLe.refl _) (OLe.bind (OLe.refl _) (fun _ => (OLe.bind (OLe.loop (fun _ => labels_named_l33_ev _ _ _)) (fun j => by cases j with | inl a => exact (OLe.refl _) | inr b => exact (OLe.refl _))))))))
noncomputable def labels_Name_c (a0 : ByteArray) : Option Bool :=
  Option.bind (labels_named_c a0 64 false) fun (y1 : Bool) =>
  some y1
theorem labels_Name_ev (a0 : ByteArray) : OLe (labels_Name_c a0) (labels_Name a0) := by
  unfold labels_Name_c labels_Name
  exact (OLe.bind (labels_named_ev _ _ _) (fun _ => (OLe.refl _)))
noncomputable def slices_Index_l17_c (a0 : List ByteArray) (a1 : ByteArray) : Int → Option ((Int) ⊕ ((Unit) ⊕ (Int))) := fun s7 =>
  bif (decide (s7 < (a0.length : Int))) then
  (Option.bind (ix a0 s7) fun (x20 : ByteArray) =>
    bif (a1.toList == x20.toList) then
    (some (Sum.inr (Sum.inr s7)))
    else
    (some (Sum.inl (IntKind.wrap .i64 (s7 + 1)))))
  else
  (some (Sum.inr (Sum.inl ())))
theorem slices_Index_l17_ev (a0 : List ByteArray) (a1 : ByteArray) (s7 : Int) : OLe (slices_Index_l17_c a0 a1 s7) (slices_Index_l17 a0 a1 s7) := by
  unfold slices_Index_l17_c slices_Index_l17
  exact (OLe.cond (OLe.bind (OLe.refl _) (fun _ => (OLe.cond (OLe.refl _) (OLe.refl _)))) (OLe.refl _))
noncomputable def slices_Index_c (a0 : List ByteArray) (a1 : ByteArray) : Option Int :=
  Option.bind (loopF 1000000 (slices_Index_l17_c a0 a1) 0) fun (r5 : (Unit) ⊕ (Int)) =>
  match r5 with
  | Sum.inl r13 => some (-1)
  | Sum.inr v29 => some v29
theorem slices_Index_ev (a0 : List ByteArray) (a1 : ByteArray) : OLe (slices_Index_c a0 a1) (slices_Index a0 a1) := by
  unfold slices_Index_c slices_Index
  exact (OLe.bind (OLe.loop (fun _ => slices_Index_l17_ev _ _ _)) (fun j => by cases j with | inl a => exact (OLe.refl _) | inr b => exact (OLe.refl _)))
noncomputable def slices_Contains_c (a0 : List ByteArray) (a1 : ByteArray) : Option Bool :=
  Option.bind (slices_Index_c a0 a1) fun (y1 : Int) =>
  some (decide (y1 ≥ 0))
theorem slices_Contains_ev (a0 : List ByteArray) (a1 : ByteArray) : OLe (slices_Contains_c a0 a1) (slices_Contains a0 a1) := by
  unfold slices_Contains_c slices_Contains
  exact (OLe.bind (slices_Index_ev _ _) (fun _ => (OLe.refl _)))
noncomputable def vec_wrong_l43_c (y18 : (List ByteArray)) : Int → Option ((Int) ⊕ ((Unit) ⊕ (Int))) := fun s33 =>
  bif (decide (s33 < (y18.length : Int))) then
  (Option.bind (ix y18 s33) fun (x46 : ByteArray) =>
    Option.bind (labels_Name_c x46) fun (y55 : Bool) =>
    bif (!y55) then
    (some (Sum.inr (Sum.inr 40)))
    else
    (some (Sum.inl (IntKind.wrap .i64 (s33 + 1)))))
  else
  (some (Sum.inr (Sum.inl ())))
theorem vec_wrong_l43_ev (y18 : (List ByteArray)) (s33 : Int) : OLe (vec_wrong_l43_c y18 s33) (vec_wrong_l43 y18 s33) := by
  unfold vec_wrong_l43_c vec_wrong_l43
  exact (OLe.cond (OLe.bind (OLe.refl _) (fun _ => (OLe.bind (labels_Name_ev _) (fun _ => (OLe.cond (OLe.refl _) (OLe.refl _)))))) (OLe.refl _))
noncomputable def vec_wrong_l82_c (a1 : S24) : Int → Option ((Int) ⊕ ((Unit) ⊕ (Int))) := fun s72 =>
  bif (decide (s72 < (a1.f3.length : Int))) then
  (Option.bind (ix a1.f3 s72) fun (x85 : ByteArray) =>
    Option.bind (bif a1.f1 then
      (Option.bind (slices_Contains_c a1.f2 x85) fun (y99 : Bool) =>
        some y99)
      else
      (some false)) fun (j93 : Bool) =>
    bif j93 then
    (some (Sum.inr (Sum.inr 1)))
    else
    (some (Sum.inl (IntKind.wrap .i64 (s72 + 1)))))
  else
  (some (Sum.inr (Sum.inl ())))
theorem vec_wrong_l82_ev (a1 : S24) (s72 : Int) : OLe (vec_wrong_l82_c a1 s72) (vec_wrong_l82 a1 s72) := by
  unfold vec_wrong_l82_c vec_wrong_l82
  exact (OLe.cond (OLe.bind (OLe.refl _) (fun _ => (OLe.bind (OLe.cond (OLe.bind (slices_Contains_ev _ _) (fun _ => (OLe.refl _))) (OLe.refl _)) (fun _ => (OLe.cond (OLe.refl _) (OLe.refl _)))))) (OLe.refl _))
noncomputable def vec_wrong_c (a0 : Int) (a1 : S24) : Option Int :=
  bif (((decide (a1.f0 < 0)) || (decide (a1.f0 > 3))) || (!((a1.f0 == 3) == (decide (a0 ≥ 13))))) then
  (some 1)
  else
  (Option.bind (slices_Concat_c [a1.f2, a1.f3]) fun (y18 : (List ByteArray)) =>
    Option.bind (loopF 1000000 (vec_wrong_l43_c y18) 0) fun (r31 : (Unit) ⊕ (Int)) =>
    match r31 with
    | Sum.inl r39 => bif ((decide ((a1.f3.length : Int) > 0)) && ((a1.f0 == 0) || (a1.f0 == 3))) then
      (some 1)
      else
      (Option.bind (loopF 1000000 (vec_wrong_l82_c a1) 0) fun (r70 : (Unit) ⊕ (Int)) =>
        match r70 with
        | Sum.inl r78 => some 0
        | Sum.inr v102 => some v102)
    | Sum.inr v103 => some v103)
theorem vec_wrong_ev (a0 : Int) (a1 : S24) : OLe (vec_wrong_c a0 a1) (vec_wrong a0 a1) := by
  unfold vec_wrong_c vec_wrong
  exact (OLe.cond (OLe.refl _) (OLe.bind (slices_Concat_ev _) (fun _ => (OLe.bind (OLe.loop (fun _ => vec_wrong_l43_ev _ _)) (fun j => by cases j with | inl a => exact (OLe.cond (OLe.refl _) (OLe.bind (OLe.loop (fun _ => vec_wrong_l82_ev _ _)) (fun j => by cases j with | inl a => exact (OLe.refl _) | inr b => exact (OLe.refl _)))) | inr b => exact (OLe.refl _))))))
noncomputable def utf8_ValidString_c (a0 : ByteArray) : Option Bool := utf8_ValidString a0
theorem utf8_ValidString_ev (a0 : ByteArray) : OLe (utf8_ValidString_c a0) (utf8_ValidString a0) := OLe.refl _
noncomputable def labels_value_c (a0 : ByteArray) : Option Int :=
  bif (a0.toList == (⟨#[]⟩ : ByteArray).toList) then
  (some 41)
  else
  (bif (decide ((a0.size : Int) > 256)) then
    (some 4)
    else
    (Option.bind (utf8_ValidString_c a0) fun (y3 : Bool) =>
      bif (!y3) then
      (some 12)
      else
      (some 0)))
theorem labels_value_ev (a0 : ByteArray) : OLe (labels_value_c a0) (labels_value a0) := by
  unfold labels_value_c labels_value
  exact (OLe.cond (OLe.refl _) (OLe.cond (OLe.refl _) (OLe.bind (utf8_ValidString_ev _) (fun _ => (OLe.cond (OLe.refl _) (OLe.refl _))))))
noncomputable def labels_Right_l18_c (a0 : List S76) : Int → Option ((Int) ⊕ ((Unit) ⊕ (Int × Int))) := fun s8 =>
  bif (decide (s8 < (a0.length : Int))) then
  (Option.bind (ix a0 s8) fun (x21 : S76) =>
    Option.bind (labels_Name_c x21.f0) fun (y30 : Bool) =>
    bif (!y30) then
    (some (Sum.inr (Sum.inr (40, s8))))
    else
    (Option.bind (labels_value_c x21.f1) fun (y33 : Int) =>
      bif (y33 != 0) then
      (some (Sum.inr (Sum.inr (y33, s8))))
      else
      (Option.bind (bif (decide (s8 > 0)) then
          (Option.bind (ix a0 (IntKind.wrap .i64 (s8 - 1))) fun (x42 : S76) =>
            some ((Op.bytesLess x21.f0.toList x42.f0.toList) || (x21.f0.toList == x42.f0.toList)))
          else
          (some false)) fun (j36 : Bool) =>
        bif j36 then
        (some (Sum.inr (Sum.inr (3, s8))))
        else
        (some (Sum.inl (IntKind.wrap .i64 (s8 + 1)))))))
  else
  (some (Sum.inr (Sum.inl ())))
theorem labels_Right_l18_ev (a0 : List S76) (s8 : Int) : OLe (labels_Right_l18_c a0 s8) (labels_Right_l18 a0 s8) := by
  unfold labels_Right_l18_c labels_Right_l18
  exact (OLe.cond (OLe.bind (OLe.refl _) (fun _ => (OLe.bind (labels_Name_ev _) (fun _ => (OLe.cond (OLe.refl _) (OLe.bind (labels_value_ev _) (fun _ => (OLe.cond (OLe.refl _) (OLe.bind (OLe.cond (OLe.bind (OLe.refl _) (fun _ => (OLe.refl _))) (OLe.refl _)) (fun _ => (OLe.cond (OLe.refl _) (OLe.refl _)))))))))))) (OLe.refl _))
noncomputable def labels_Right_c (a0 : List S76) : Option (Int × Int) :=
  bif (decide ((a0.length : Int) > 16)) then
  (some (8, 0))
  else
  (Option.bind (loopF 1000000 (labels_Right_l18_c a0) 0) fun (r6 : (Unit) ⊕ (Int × Int)) =>
    match r6 with
    | Sum.inl r14 => some (0, 0)
    | Sum.inr v51 => some v51)
theorem labels_Right_ev (a0 : List S76) : OLe (labels_Right_c a0) (labels_Right a0) := by
  unfold labels_Right_c labels_Right
  exact (OLe.cond (OLe.refl _) (OLe.bind (OLe.loop (fun _ => labels_Right_l18_ev _ _)) (fun j => by cases j with | inl a => exact (OLe.refl _) | inr b => exact (OLe.refl _))))
noncomputable def slices_Clone_c (a0 : List S76) : Option (List S76) :=
  Option.bind (app ([] : List S76) a0) fun (zs3 : List S76) =>
  some zs3
theorem slices_Clone_ev (a0 : List S76) : OLe (slices_Clone_c a0) (slices_Clone a0) := by
  unfold slices_Clone_c slices_Clone
  exact (OLe.bind (OLe.refl _) (fun _ => (OLe.refl _)))
noncomputable def slices_CompareFunc_l17_c (a0 : List S76) (a1 : List S76) (a2 : S76 → S76 → Option Int) : Int → Option ((Int) ⊕ ((Unit) ⊕ (Int))) := fun s7 =>
  bif (decide (s7 < (a0.length : Int))) then
  (Option.bind (ix a0 s7) fun (x20 : S76) =>
    bif (decide (s7 ≥ (a1.length : Int))) then
    (some (Sum.inr (Sum.inr 1)))
    else
    (Option.bind (ix a1 s7) fun (x30 : S76) =>
      Option.bind (a2 x20 x30) fun (y40 : Int) =>
      bif (y40 != 0) then
      (some (Sum.inr (Sum.inr y40)))
      else
      (some (Sum.inl (IntKind.wrap .i64 (s7 + 1))))))
  else
  (some (Sum.inr (Sum.inl ())))
theorem slices_CompareFunc_l17_ev (a0 : List S76) (a1 : List S76) {a2 a2' : S76 → S76 → Option Int} (ha2 : ∀ x0 x1, OLe (a2 x0 x1) (a2' x0 x1)) (s7 : Int) : OLe (slices_CompareFunc_l17_c a0 a1 a2 s7) (slices_CompareFunc_l17 a0 a1 a2' s7) := by
  unfold slices_CompareFunc_l17_c slices_CompareFunc_l17
  exact (OLe.cond (OLe.bind (OLe.refl _) (fun _ => (OLe.cond (OLe.refl _) (OLe.bind (OLe.refl _) (fun _ => (OLe.bind (ha2 _ _) (fun _ => (OLe.cond (OLe.refl _) (OLe.refl _))))))))) (OLe.refl _))
noncomputable def slices_CompareFunc_c (a0 : List S76) (a1 : List S76) (a2 : S76 → S76 → Option Int) : Option Int :=
  Option.bind (loopF 1000000 (slices_CompareFunc_l17_c a0 a1 a2) 0) fun (r5 : (Unit) ⊕ (Int)) =>
  match r5 with
  | Sum.inl r13 => bif (decide ((a0.length : Int) < (a1.length : Int))) then
    (some (-1))
    else
    (some 0)
  | Sum.inr v43 => some v43
theorem slices_CompareFunc_ev (a0 : List S76) (a1 : List S76) {a2 a2' : S76 → S76 → Option Int} (ha2 : ∀ x0 x1, OLe (a2 x0 x1) (a2' x0 x1)) : OLe (slices_CompareFunc_c a0 a1 a2) (slices_CompareFunc a0 a1 a2') := by
  unfold slices_CompareFunc_c slices_CompareFunc
  exact (OLe.bind (OLe.loop (fun _ => slices_CompareFunc_l17_ev _ _ ha2 _)) (fun j => by cases j with | inl a => exact (OLe.cond (OLe.refl _) (OLe.refl _)) | inr b => exact (OLe.refl _)))
noncomputable def labels_Compare_c (a0 : List S76) (a1 : List S76) : Option Int :=
  Option.bind (slices_CompareFunc_c a0 a1 (fun x0 x1 => some (labels_Compare_1 x0 x1))) fun (y1 : Int) =>
  some y1
theorem labels_Compare_ev (a0 : List S76) (a1 : List S76) : OLe (labels_Compare_c a0 a1) (labels_Compare a0 a1) := by
  unfold labels_Compare_c labels_Compare
  exact (OLe.bind (slices_CompareFunc_ev _ _ (fun _ _ => OLe.refl _)) (fun _ => (OLe.refl _)))
noncomputable def vec_Vector_1_c (a0 : S38) (a1 : S38) : Option Int :=
  Option.bind (labels_Compare_c a0.f0 a1.f0) fun (y3 : Int) =>
  some y3
theorem vec_Vector_1_ev (a0 : S38) (a1 : S38) : OLe (vec_Vector_1_c a0 a1) (vec_Vector_1 a0 a1) := by
  unfold vec_Vector_1_c vec_Vector_1
  exact (OLe.bind (labels_Compare_ev _ _) (fun _ => (OLe.refl _)))
noncomputable def vec_Vector_l18_c (a0 : List S38) : Int → Option ((Int) ⊕ ((Unit) ⊕ ((List S38) × Int))) := fun s8 =>
  bif (decide (s8 < (a0.length : Int))) then
  (Option.bind (ix a0 s8) fun (x21 : S38) =>
    Option.bind (labels_Right_c x21.f0) fun (y35 : Int × Int) =>
    bif (y35.1 != 0) then
    (some (Sum.inr (Sum.inr ([], 41))))
    else
    (some (Sum.inl (IntKind.wrap .i64 (s8 + 1)))))
  else
  (some (Sum.inr (Sum.inl ())))
theorem vec_Vector_l18_ev (a0 : List S38) (s8 : Int) : OLe (vec_Vector_l18_c a0 s8) (vec_Vector_l18 a0 s8) := by
  unfold vec_Vector_l18_c vec_Vector_l18
  exact (OLe.cond (OLe.bind (OLe.refl _) (fun _ => (OLe.bind (labels_Right_ev _) (fun _ => (OLe.cond (OLe.refl _) (OLe.refl _)))))) (OLe.refl _))
noncomputable def vec_Vector_l65_c (a0 : List S38) : ((List S38) × Int) → Option (((List S38) × Int) ⊕ ((List S38))) := fun s48 =>
  bif (decide (s48.2 < (a0.length : Int))) then
  (Option.bind (ix a0 s48.2) fun (x68 : S38) =>
    Option.bind (slices_Clone_c x68.f0) fun (y82 : (List S76)) =>
    Option.bind (app s48.1 [(⟨y82, x68.f1⟩ : S38)]) fun (zs99 : List S38) =>
    some (Sum.inl (zs99, (IntKind.wrap .i64 (s48.2 + 1)))))
  else
  (some (Sum.inr s48.1))
theorem vec_Vector_l65_ev (a0 : List S38) (s48 : (List S38) × Int) : OLe (vec_Vector_l65_c a0 s48) (vec_Vector_l65 a0 s48) := by
  unfold vec_Vector_l65_c vec_Vector_l65
  exact (OLe.cond (OLe.bind (OLe.refl _) (fun _ => (OLe.bind (slices_Clone_ev _) (fun _ => (OLe.bind (OLe.refl _) (fun _ => (OLe.refl _))))))) (OLe.refl _))
noncomputable def vec_Vector_l131_c (zs105 : List S38) : Int → Option ((Int) ⊕ ((Unit) ⊕ ((List S38) × Int))) := fun s121 =>
  bif (decide (s121 < (zs105.length : Int))) then
  (Option.bind (ix zs105 (IntKind.wrap .i64 (s121 - 1))) fun (x134 : S38) =>
    Option.bind (ix zs105 s121) fun (x148 : S38) =>
    Option.bind (labels_Compare_c x134.f0 x148.f0) fun (y162 : Int) =>
    bif (y162 == 0) then
    (some (Sum.inr (Sum.inr ([], 150))))
    else
    (some (Sum.inl (IntKind.wrap .i64 (s121 + 1)))))
  else
  (some (Sum.inr (Sum.inl ())))
theorem vec_Vector_l131_ev (zs105 : List S38) (s121 : Int) : OLe (vec_Vector_l131_c zs105 s121) (vec_Vector_l131 zs105 s121) := by
  unfold vec_Vector_l131_c vec_Vector_l131
  exact (OLe.cond (OLe.bind (OLe.refl _) (fun _ => (OLe.bind (OLe.refl _) (fun _ => (OLe.bind (labels_Compare_ev _ _) (fun _ => (OLe.cond (OLe.refl _) (OLe.refl _)))))))) (OLe.refl _))
noncomputable def vec_Vector_c (a0 : List S38) : Option ((List S38) × Int) :=
  bif (decide ((a0.length : Int) > 1000)) then
  (some ([], 7))
  else
  (Option.bind (loopF 1000000 (vec_Vector_l18_c a0) 0) fun (r6 : (Unit) ⊕ ((List S38) × Int)) =>
    match r6 with
    | Sum.inl r14 => Option.bind (loopF 1000000 (vec_Vector_l65_c a0) ([], 0)) fun (r46 : (List S38)) =>
      sortBindC vec_Vector_1_c r46 fun (zs105 : List S38) =>
      Option.bind (loopF 1000000 (vec_Vector_l131_c zs105) 1) fun (r119 : (Unit) ⊕ ((List S38) × Int)) =>
      match r119 with
      | Sum.inl r127 => some (zs105, 0)
      | Sum.inr v165 => some v165
    | Sum.inr v166 => some v166)
theorem vec_Vector_ev (a0 : List S38) : OLe (vec_Vector_c a0) (vec_Vector a0) := by
  unfold vec_Vector_c vec_Vector
  exact (OLe.cond (OLe.refl _) (OLe.bind (OLe.loop (fun _ => vec_Vector_l18_ev _ _)) (fun j => by cases j with | inl a => exact (OLe.bind (OLe.loop (fun _ => vec_Vector_l65_ev _ _)) (fun _ => (OLe.sort (fun _ _ => vec_Vector_1_ev _ _) (fun _ => (OLe.bind (OLe.loop (fun _ => vec_Vector_l131_ev _ _)) (fun j => by cases j with | inl a => exact (OLe.refl _) | inr b => exact (OLe.refl _))))))) | inr b => exact (OLe.refl _))))
noncomputable def labels_right_c (a0 : List S76) : Option Int :=
  Option.bind (labels_Right_c a0) fun (y1 : Int × Int) =>
  some y1.1
theorem labels_right_ev (a0 : List S76) : OLe (labels_right_c a0) (labels_right a0) := by
  unfold labels_right_c labels_right
  exact (OLe.bind (labels_Right_ev _) (fun _ => (OLe.refl _)))
noncomputable def labels_pick_l28_c (a0 : List S76) (a1 : Bool) (a2 : List ByteArray) : ((List S76) × Int) → Option (((List S76) × Int) ⊕ ((List S76))) := fun s11 =>
  bif (decide (s11.2 < (a0.length : Int))) then
  (Option.bind (ix a0 s11.2) fun (x31 : S76) =>
    Option.bind (slices_Contains_c a2 x31.f0) fun (y40 : Bool) =>
    Option.bind (bif (y40 == a1) then
      (Option.bind (app s11.1 [x31]) fun (zs56 : List S76) =>
        some zs56)
      else
      (some s11.1)) fun (j42 : (List S76)) =>
    some (Sum.inl (j42, (IntKind.wrap .i64 (s11.2 + 1)))))
  else
  (some (Sum.inr s11.1))
theorem labels_pick_l28_ev (a0 : List S76) (a1 : Bool) (a2 : List ByteArray) (s11 : (List S76) × Int) : OLe (labels_pick_l28_c a0 a1 a2 s11) (labels_pick_l28 a0 a1 a2 s11) := by
  unfold labels_pick_l28_c labels_pick_l28
  exact (OLe.cond (OLe.bind (OLe.refl _) (fun _ => (OLe.bind (slices_Contains_ev _ _) (fun _ => (OLe.bind (OLe.cond (OLe.bind (OLe.refl _) (fun _ => (OLe.refl _))) (OLe.refl _)) (fun _ => (OLe.refl _))))))) (OLe.refl _))
noncomputable def labels_pick_c (a0 : List S76) (a1 : Bool) (a2 : List ByteArray) : Option (List S76) :=
  Option.bind (loopF 1000000 (labels_pick_l28_c a0 a1 a2) ([], 0)) fun (r9 : (List S76)) =>
  some r9
theorem labels_pick_ev (a0 : List S76) (a1 : Bool) (a2 : List ByteArray) : OLe (labels_pick_c a0 a1 a2) (labels_pick a0 a1 a2) := by
  unfold labels_pick_c labels_pick
  exact (OLe.bind (OLe.loop (fun _ => labels_pick_l28_ev _ _ _ _)) (fun _ => (OLe.refl _)))
noncomputable def labels_Keep_c (a0 : List S76) (a1 : List ByteArray) : Option ((List S76) × Int) :=
  Option.bind (labels_right_c a0) fun (y1 : Int) =>
  bif (y1 != 0) then
  (some ([], y1))
  else
  (Option.bind (labels_pick_c a0 true a1) fun (y4 : (List S76)) =>
    some (y4, 0))
theorem labels_Keep_ev (a0 : List S76) (a1 : List ByteArray) : OLe (labels_Keep_c a0 a1) (labels_Keep a0 a1) := by
  unfold labels_Keep_c labels_Keep
  exact (OLe.bind (labels_right_ev _) (fun _ => (OLe.cond (OLe.refl _) (OLe.bind (labels_pick_ev _ _ _) (fun _ => (OLe.refl _))))))
noncomputable def slices_Clone_f76_c (a0 : List ByteArray) : Option (List ByteArray) :=
  Option.bind (app ([] : List ByteArray) a0) fun (zs3 : List ByteArray) =>
  some zs3
theorem slices_Clone_f76_ev (a0 : List ByteArray) : OLe (slices_Clone_f76_c a0) (slices_Clone_f76 a0) := by
  unfold slices_Clone_f76_c slices_Clone_f76
  exact (OLe.bind (OLe.refl _) (fun _ => (OLe.refl _)))
noncomputable def labels_Without_c (a0 : List S76) (a1 : List ByteArray) : Option ((List S76) × Int) :=
  Option.bind (labels_right_c a0) fun (y1 : Int) =>
  bif (y1 != 0) then
  (some ([], y1))
  else
  (Option.bind (labels_pick_c a0 false a1) fun (y4 : (List S76)) =>
    some (y4, 0))
theorem labels_Without_ev (a0 : List S76) (a1 : List ByteArray) : OLe (labels_Without_c a0 a1) (labels_Without a0 a1) := by
  unfold labels_Without_c labels_Without
  exact (OLe.bind (labels_right_ev _) (fun _ => (OLe.cond (OLe.refl _) (OLe.bind (labels_pick_ev _ _ _) (fun _ => (OLe.refl _))))))
noncomputable def vint_joined_c (a0 : List Int) (a1 : List Int) : Option (List Int) :=
  Option.bind (mkrow (0 : Int) 0 (IntKind.wrap .i64 ((a0.length : Int) + (a1.length : Int)))) fun (xs1 : List Int) =>
  Option.bind (app xs1 a0) fun (zs6 : List Int) =>
  Option.bind (app zs6 a1) fun (zs12 : List Int) =>
  some zs12
theorem vint_joined_ev (a0 : List Int) (a1 : List Int) : OLe (vint_joined_c a0 a1) (vint_joined a0 a1) := by
  unfold vint_joined_c vint_joined
  exact (OLe.bind (OLe.refl _) (fun _ => (OLe.bind (OLe.refl _) (fun _ => (OLe.bind (OLe.refl _) (fun _ => (OLe.refl _)))))))
noncomputable def vint_PutU_l28_c : (Int × (List Int)) → Option ((Int × (List Int)) ⊕ (Int × (List Int))) := fun s11 =>
  bif (decide (s11.1 ≥ 128)) then
  (Option.bind (app s11.2 [(bitOr .u8 (IntKind.wrap .u8 s11.1) 128)]) fun (zs35 : List Int) =>
    some (Sum.inl ((shr .u64 s11.1 7), zs35)))
  else
  (some (Sum.inr (s11.1, s11.2)))
theorem vint_PutU_l28_ev  (s11 : Int × (List Int)) : OLe (vint_PutU_l28_c  s11) (vint_PutU_l28  s11) := by
  unfold vint_PutU_l28_c vint_PutU_l28
  exact (OLe.cond (OLe.bind (OLe.refl _) (fun _ => (OLe.refl _))) (OLe.refl _))
noncomputable def vint_PutU_c (a0 : List Int) (a1 : Int) : Option (List Int) :=
  Option.bind (loopF 1000000 vint_PutU_l28_c (a1, [])) fun (r9 : Int × (List Int)) =>
  Option.bind (app r9.2 [(IntKind.wrap .u8 r9.1)]) fun (zs45 : List Int) =>
  Option.bind (vint_joined_c a0 zs45) fun (y55 : (List Int)) =>
  some y55
theorem vint_PutU_ev (a0 : List Int) (a1 : Int) : OLe (vint_PutU_c a0 a1) (vint_PutU a0 a1) := by
  unfold vint_PutU_c vint_PutU
  exact (OLe.bind (OLe.loop (fun _ => vint_PutU_l28_ev  _)) (fun _ => (OLe.bind (OLe.refl _) (fun _ => (OLe.bind (vint_joined_ev _ _) (fun _ => (OLe.refl _)))))))
noncomputable def vint_PutText_c (a0 : List Int) (a1 : ByteArray) : Option (List Int) :=
  Option.bind (vint_PutU_c a0 (IntKind.wrap .u64 (a1.size : Int))) fun (y1 : (List Int)) =>
  Option.bind (sb a1) fun (l10 : List Int) =>
  Option.bind (vint_joined_c y1 l10) fun (y21 : (List Int)) =>
  some y21
theorem vint_PutText_ev (a0 : List Int) (a1 : ByteArray) : OLe (vint_PutText_c a0 a1) (vint_PutText a0 a1) := by
  unfold vint_PutText_c vint_PutText
  exact (OLe.bind (vint_PutU_ev _ _) (fun _ => (OLe.bind (OLe.refl _) (fun _ => (OLe.bind (vint_joined_ev _ _) (fun _ => (OLe.refl _)))))))
noncomputable def labels_Put_l40_c (a1 : List S76) : ((List Int) × Int) → Option (((List Int) × Int) ⊕ ((List Int))) := fun s23 =>
  bif (decide (s23.2 < (a1.length : Int))) then
  (Option.bind (ix a1 s23.2) fun (x43 : S76) =>
    Option.bind (vint_PutText_c s23.1 x43.f0) fun (y56 : (List Int)) =>
    Option.bind (vint_PutText_c y56 x43.f1) fun (y69 : (List Int)) =>
    some (Sum.inl (y69, (IntKind.wrap .i64 (s23.2 + 1)))))
  else
  (some (Sum.inr s23.1))
theorem labels_Put_l40_ev (a1 : List S76) (s23 : (List Int) × Int) : OLe (labels_Put_l40_c a1 s23) (labels_Put_l40 a1 s23) := by
  unfold labels_Put_l40_c labels_Put_l40
  exact (OLe.cond (OLe.bind (OLe.refl _) (fun _ => (OLe.bind (vint_PutText_ev _ _) (fun _ => (OLe.bind (vint_PutText_ev _ _) (fun _ => (OLe.refl _))))))) (OLe.refl _))
noncomputable def labels_Put_c (a0 : List Int) (a1 : List S76) : Option ((List Int) × Int) :=
  Option.bind (labels_right_c a1) fun (y1 : Int) =>
  bif (y1 != 0) then
  (some ([], y1))
  else
  (Option.bind (vint_PutU_c a0 (IntKind.wrap .u64 (a1.length : Int))) fun (y4 : (List Int)) =>
    Option.bind (loopF 1000000 (labels_Put_l40_c a1) (y4, 0)) fun (r21 : (List Int)) =>
    some (r21, 0))
theorem labels_Put_ev (a0 : List Int) (a1 : List S76) : OLe (labels_Put_c a0 a1) (labels_Put a0 a1) := by
  unfold labels_Put_c labels_Put
  exact (OLe.bind (labels_right_ev _) (fun _ => (OLe.cond (OLe.refl _) (OLe.bind (vint_PutU_ev _ _) (fun _ => (OLe.bind (OLe.loop (fun _ => labels_Put_l40_ev _ _)) (fun _ => (OLe.refl _))))))))
noncomputable def vec_signature_c (a0 : List S76) (a1 : S24) : Option ByteArray :=
  Option.bind (bif a1.f1 then
    (Option.bind (labels_Keep_c a0 a1.f2) fun (y12 : (List S76) × Int) =>
      some y12.1)
    else
    (Option.bind (slices_Clone_f76_c a1.f2) fun (y21 : (List ByteArray)) =>
      Option.bind (app y21 [(⟨#[95, 95, 110, 97, 109, 101, 95, 95]⟩ : ByteArray)]) fun (zs34 : List ByteArray) =>
      Option.bind (labels_Without_c a0 zs34) fun (y44 : (List S76) × Int) =>
      some y44.1)) fun (j2 : (List S76)) =>
  Option.bind (labels_Put_c [] j2) fun (y57 : (List Int) × Int) =>
  some (ofBytes y57.1)
theorem vec_signature_ev (a0 : List S76) (a1 : S24) : OLe (vec_signature_c a0 a1) (vec_signature a0 a1) := by
  unfold vec_signature_c vec_signature
  exact (OLe.bind (OLe.cond (OLe.bind (labels_Keep_ev _ _) (fun _ => (OLe.refl _))) (OLe.bind (slices_Clone_f76_ev _) (fun _ => (OLe.bind (OLe.refl _) (fun _ => (OLe.bind (labels_Without_ev _ _) (fun _ => (OLe.refl _)))))))) (fun _ => (OLe.bind (labels_Put_ev _ _) (fun _ => (OLe.refl _)))))
noncomputable def vec_sets_1_l25_c (a0 : List S38) (a1 : S24) : ((List (ByteArray × Bool)) × Int) → Option (((List (ByteArray × Bool)) × Int) ⊕ ((List (ByteArray × Bool)))) := fun s12 =>
  bif (decide (s12.2 < (a0.length : Int))) then
  (Option.bind (ix a0 s12.2) fun (x28 : S38) =>
    Option.bind (vec_signature_c x28.f0 a1) fun (y42 : ByteArray) =>
    some (Sum.inl ((mput Ky.str s12.1 y42 true), (IntKind.wrap .i64 (s12.2 + 1)))))
  else
  (some (Sum.inr s12.1))
theorem vec_sets_1_l25_ev (a0 : List S38) (a1 : S24) (s12 : (List (ByteArray × Bool)) × Int) : OLe (vec_sets_1_l25_c a0 a1 s12) (vec_sets_1_l25 a0 a1 s12) := by
  unfold vec_sets_1_l25_c vec_sets_1_l25
  exact (OLe.cond (OLe.bind (OLe.refl _) (fun _ => (OLe.bind (vec_signature_ev _ _) (fun _ => (OLe.refl _))))) (OLe.refl _))
noncomputable def vec_sets_1_c (a0 : List S38) (a1 : S24) : Option (List (ByteArray × Bool)) :=
  Option.bind (loopF 1000000 (vec_sets_1_l25_c a0 a1) (([] : List (ByteArray × Bool)), 0)) fun (r10 : (List (ByteArray × Bool))) =>
  some r10
theorem vec_sets_1_ev (a0 : List S38) (a1 : S24) : OLe (vec_sets_1_c a0 a1) (vec_sets_1 a0 a1) := by
  unfold vec_sets_1_c vec_sets_1
  exact (OLe.bind (OLe.loop (fun _ => vec_sets_1_l25_ev _ _ _)) (fun _ => (OLe.refl _)))
noncomputable def vec_sets_l49_c (a0 : Int) (a1 : List S38) (a3 : S24) (y14 : (List (ByteArray × Bool))) : ((List S38) × Int) → Option (((List S38) × Int) ⊕ ((List S38))) := fun s32 =>
  bif (decide (s32.2 < (a1.length : Int))) then
  (Option.bind (ix a1 s32.2) fun (x52 : S38) =>
    Option.bind (bif (a0 == 14) then
      (some true)
      else
      (Option.bind (vec_signature_c x52.f0 a3) fun (y72 : ByteArray) =>
        some (((mget Ky.str y14 y72).getD false) == (a0 == 13)))) fun (j66 : Bool) =>
    Option.bind (bif j66 then
      (Option.bind (app s32.1 [x52]) fun (zs88 : List S38) =>
        some zs88)
      else
      (some s32.1)) fun (j74 : (List S38)) =>
    some (Sum.inl (j74, (IntKind.wrap .i64 (s32.2 + 1)))))
  else
  (some (Sum.inr s32.1))
theorem vec_sets_l49_ev (a0 : Int) (a1 : List S38) (a3 : S24) (y14 : (List (ByteArray × Bool))) (s32 : (List S38) × Int) : OLe (vec_sets_l49_c a0 a1 a3 y14 s32) (vec_sets_l49 a0 a1 a3 y14 s32) := by
  unfold vec_sets_l49_c vec_sets_l49
  exact (OLe.cond (OLe.bind (OLe.refl _) (fun _ => (OLe.bind (OLe.cond (OLe.refl _) (OLe.bind (vec_signature_ev _ _) (fun _ => (OLe.refl _)))) (fun _ => (OLe.bind (OLe.cond (OLe.bind (OLe.refl _) (fun _ => (OLe.refl _))) (OLe.refl _)) (fun _ => (OLe.refl _))))))) (OLe.refl _))
noncomputable def vec_sets_l121_c (a0 : Int) (a2 : List S38) (a3 : S24) (y6 : (List (ByteArray × Bool))) : ((List S38) × Int) → Option (((List S38) × Int) ⊕ ((List S38))) := fun s104 =>
  bif (decide (s104.2 < (a2.length : Int))) then
  (Option.bind (ix a2 s104.2) fun (x124 : S38) =>
    Option.bind (bif (a0 == 14) then
      (Option.bind (vec_signature_c x124.f0 a3) fun (y144 : ByteArray) =>
        some (!((mget Ky.str y6 y144).getD false)))
      else
      (some false)) fun (j138 : Bool) =>
    Option.bind (bif j138 then
      (Option.bind (app s104.1 [x124]) fun (zs160 : List S38) =>
        some zs160)
      else
      (some s104.1)) fun (j146 : (List S38)) =>
    some (Sum.inl (j146, (IntKind.wrap .i64 (s104.2 + 1)))))
  else
  (some (Sum.inr s104.1))
theorem vec_sets_l121_ev (a0 : Int) (a2 : List S38) (a3 : S24) (y6 : (List (ByteArray × Bool))) (s104 : (List S38) × Int) : OLe (vec_sets_l121_c a0 a2 a3 y6 s104) (vec_sets_l121 a0 a2 a3 y6 s104) := by
  unfold vec_sets_l121_c vec_sets_l121
  exact (OLe.cond (OLe.bind (OLe.refl _) (fun _ => (OLe.bind (OLe.cond (OLe.bind (vec_signature_ev _ _) (fun _ => (OLe.refl _))) (OLe.refl _)) (fun _ => (OLe.bind (OLe.cond (OLe.bind (OLe.refl _) (fun _ => (OLe.refl _))) (OLe.refl _)) (fun _ => (OLe.refl _))))))) (OLe.refl _))
noncomputable def vec_sets_c (a0 : Int) (a1 : List S38) (a2 : List S38) (a3 : S24) : Option (List S38) :=
  Option.bind (vec_sets_1_c a1 a3) fun (y6 : (List (ByteArray × Bool))) =>
  Option.bind (vec_sets_1_c a2 a3) fun (y14 : (List (ByteArray × Bool))) =>
  Option.bind (loopF 1000000 (vec_sets_l49_c a0 a1 a3 y14) ([], 0)) fun (r30 : (List S38)) =>
  Option.bind (loopF 1000000 (vec_sets_l121_c a0 a2 a3 y6) (r30, 0)) fun (r102 : (List S38)) =>
  some r102
theorem vec_sets_ev (a0 : Int) (a1 : List S38) (a2 : List S38) (a3 : S24) : OLe (vec_sets_c a0 a1 a2 a3) (vec_sets a0 a1 a2 a3) := by
  unfold vec_sets_c vec_sets
  exact (OLe.bind (vec_sets_1_ev _ _) (fun _ => (OLe.bind (vec_sets_1_ev _ _) (fun _ => (OLe.bind (OLe.loop (fun _ => vec_sets_l49_ev _ _ _ _ _)) (fun _ => (OLe.bind (OLe.loop (fun _ => vec_sets_l121_ev _ _ _ _ _)) (fun _ => (OLe.refl _)))))))))
noncomputable def math_Abs_c (a0 : Fl) : Option Fl :=
  Option.bind (fbits a0) fun (q1 : Int) =>
  some (some ((bitAndnot .u64 q1 9223372036854775808) : Int).toNat : Fl)
theorem math_Abs_ev (a0 : Fl) : OLe (math_Abs_c a0) (math_Abs a0) := by
  unfold math_Abs_c math_Abs
  exact (OLe.bind (OLe.refl _) (fun _ => (OLe.refl _)))
noncomputable def math_IsInf_c (a0 : Fl) (a1 : Int) : Option Bool :=
  Option.bind (bif (a1 == 0) then
    (Option.bind (math_Abs_c a0) fun (y9 : Fl) =>
      some y9)
    else
    (Option.bind (bif (decide (a1 < 0)) then
        (some (fneg a0))
        else
        (some a0)) fun (j16 : Fl) =>
      some j16)) fun (j1 : Fl) =>
  some (fcmp .gtr j1 (some 9218868437227405311 : Fl))
theorem math_IsInf_ev (a0 : Fl) (a1 : Int) : OLe (math_IsInf_c a0 a1) (math_IsInf a0 a1) := by
  unfold math_IsInf_c math_IsInf
  exact (OLe.bind (OLe.cond (OLe.bind (math_Abs_ev _) (fun _ => (OLe.refl _))) (OLe.bind (OLe.cond (OLe.refl _) (OLe.refl _)) (fun _ => (OLe.refl _)))) (fun _ => (OLe.refl _)))
noncomputable def math_normalize_c (a0 : Fl) : Option (Fl × Int) :=
  Option.bind (math_Abs_c a0) fun (y1 : Fl) =>
  bif (fcmp .lss y1 (some 4503599627370496 : Fl)) then
  (some ((farith .mul a0 (some 4841369599423283200 : Fl)), (-52)))
  else
  (some (a0, 0))
theorem math_normalize_ev (a0 : Fl) : OLe (math_normalize_c a0) (math_normalize a0) := by
  unfold math_normalize_c math_normalize
  exact (OLe.bind (math_Abs_ev _) (fun _ => (OLe.cond (OLe.refl _) (OLe.refl _))))
noncomputable def math_frexp_c (a0 : Fl) : Option (Fl × Int) :=
  bif (fcmp .eql a0 (some 0 : Fl)) then
  (some (a0, 0))
  else
  (Option.bind (Option.bind (math_IsInf_c a0 0) fun (y7 : Bool) =>
      bif y7 then
      (some true)
      else
      (some (math_IsNaN a0))) fun (j2 : Bool) =>
    bif j2 then
    (some (a0, 0))
    else
    (Option.bind (math_normalize_c a0) fun (y11 : Fl × Int) =>
      Option.bind (fbits y11.1) fun (q18 : Int) =>
      some ((some ((bitOr .u64 (bitAndnot .u64 q18 9218868437227405312) 4602678819172646912) : Int).toNat : Fl), (IntKind.wrap .i64 (y11.2 + (IntKind.wrap .i64 ((IntKind.wrap .i64 ((IntKind.wrap .i64 (bitAnd .u64 (shr .u64 q18 52) 2047)) - 1023)) + 1)))))))
theorem math_frexp_ev (a0 : Fl) : OLe (math_frexp_c a0) (math_frexp a0) := by
  unfold math_frexp_c math_frexp
  exact (OLe.cond (OLe.refl _) (OLe.bind (OLe.bind (math_IsInf_ev _ _) (fun _ => (OLe.cond (OLe.refl _) (OLe.refl _)))) (fun _ => (OLe.cond (OLe.refl _) (OLe.bind (math_normalize_ev _) (fun _ => (OLe.bind (OLe.refl _) (fun _ => (OLe.refl _)))))))))
noncomputable def math_Frexp_c (a0 : Fl) : Option (Fl × Int) :=
  Option.bind (math_frexp_c a0) fun (y1 : Fl × Int) =>
  some (y1.1, y1.2)
theorem math_Frexp_ev (a0 : Fl) : OLe (math_Frexp_c a0) (math_Frexp a0) := by
  unfold math_Frexp_c math_Frexp
  exact (OLe.bind (math_frexp_ev _) (fun _ => (OLe.refl _)))
noncomputable def math_Copysign_c (a0 : Fl) (a1 : Fl) : Option Fl :=
  Option.bind (fbits a0) fun (q1 : Int) =>
  Option.bind (fbits a1) fun (q3 : Int) =>
  some (some ((bitOr .u64 (bitAndnot .u64 q1 9223372036854775808) (bitAnd .u64 q3 9223372036854775808)) : Int).toNat : Fl)
theorem math_Copysign_ev (a0 : Fl) (a1 : Fl) : OLe (math_Copysign_c a0 a1) (math_Copysign a0 a1) := by
  unfold math_Copysign_c math_Copysign
  exact (OLe.bind (OLe.refl _) (fun _ => (OLe.bind (OLe.refl _) (fun _ => (OLe.refl _)))))
noncomputable def math_Inf_c (a0 : Int) : Option Fl :=
  Option.bind (bif (decide (a0 ≥ 0)) then
    (some 9218868437227405312)
    else
    (some 18442240474082181120)) fun (j1 : Int) =>
  some (some (j1 : Int).toNat : Fl)
theorem math_Inf_ev (a0 : Int) : OLe (math_Inf_c a0) (math_Inf a0) := by
  unfold math_Inf_c math_Inf
  exact (OLe.bind (OLe.cond (OLe.refl _) (OLe.refl _)) (fun _ => (OLe.refl _)))
noncomputable def math_ldexp_c (a0 : Fl) (a1 : Int) : Option Fl :=
  bif (fcmp .eql a0 (some 0 : Fl)) then
  (some a0)
  else
  (Option.bind (Option.bind (math_IsInf_c a0 0) fun (y7 : Bool) =>
      bif y7 then
      (some true)
      else
      (some (math_IsNaN a0))) fun (j2 : Bool) =>
    bif j2 then
    (some a0)
    else
    (Option.bind (math_normalize_c a0) fun (y11 : Fl × Int) =>
      Option.bind (fbits y11.1) fun (q18 : Int) =>
      bif (decide ((IntKind.wrap .i64 ((IntKind.wrap .i64 (a1 + y11.2)) + (IntKind.wrap .i64 ((bitAnd .i64 (IntKind.wrap .i64 (shr .u64 q18 52)) 2047) - 1023)))) < (-1075))) then
      (Option.bind (math_Copysign_c (some 0 : Fl) y11.1) fun (y21 : Fl) =>
        some y21)
      else
      (bif (decide ((IntKind.wrap .i64 ((IntKind.wrap .i64 (a1 + y11.2)) + (IntKind.wrap .i64 ((bitAnd .i64 (IntKind.wrap .i64 (shr .u64 q18 52)) 2047) - 1023)))) > 1023)) then
        (bif (fcmp .lss y11.1 (some 0 : Fl)) then
          (Option.bind (math_Inf_c (-1)) fun (y30 : Fl) =>
            some y30)
          else
          (Option.bind (math_Inf_c 1) fun (y37 : Fl) =>
            some y37))
        else
        (Option.bind (bif (decide ((IntKind.wrap .i64 ((IntKind.wrap .i64 (a1 + y11.2)) + (IntKind.wrap .i64 ((bitAnd .i64 (IntKind.wrap .i64 (shr .u64 q18 52)) 2047) - 1023)))) < (-1022))) then
            (some ((IntKind.wrap .i64 ((IntKind.wrap .i64 ((IntKind.wrap .i64 (a1 + y11.2)) + (IntKind.wrap .i64 ((bitAnd .i64 (IntKind.wrap .i64 (shr .u64 q18 52)) 2047) - 1023)))) + 53)), (some 4368491638549381120 : Fl)))
            else
            (some ((IntKind.wrap .i64 ((IntKind.wrap .i64 (a1 + y11.2)) + (IntKind.wrap .i64 ((bitAnd .i64 (IntKind.wrap .i64 (shr .u64 q18 52)) 2047) - 1023)))), (some 4607182418800017408 : Fl)))) fun (j44 : Int × Fl) =>
          some (farith .mul j44.2 (some ((bitOr .u64 (bitAndnot .u64 q18 9218868437227405312) (shl .u64 (IntKind.wrap .u64 (IntKind.wrap .i64 (j44.1 + 1023))) 52)) : Int).toNat : Fl))))))
theorem math_ldexp_ev (a0 : Fl) (a1 : Int) : OLe (math_ldexp_c a0 a1) (math_ldexp a0 a1) := by
  unfold math_ldexp_c math_ldexp
  exact (OLe.cond (OLe.refl _) (OLe.bind (OLe.bind (math_IsInf_ev _ _) (fun _ => (OLe.cond (OLe.refl _) (OLe.refl _)))) (fun _ => (OLe.cond (OLe.refl _) (OLe.bind (math_normalize_ev _) (fun _ => (OLe.bind (OLe.refl _) (fun _ => (OLe.cond (OLe.bind (math_Copysign_ev _ _) (fun _ => (OLe.refl _))) (OLe.cond (OLe.cond (OLe.bind (math_Inf_ev _) (fun _ => (OLe.refl _))) (OLe.bind (math_Inf_ev _) (fun _ => (OLe.refl _)))) (OLe.bind (OLe.cond (OLe.refl _) (OLe.refl _)) (fun _ => (OLe.refl _)))))))))))))
noncomputable def math_Ldexp_c (a0 : Fl) (a1 : Int) : Option Fl :=
  Option.bind (math_ldexp_c a0 a1) fun (y1 : Fl) =>
  some y1
theorem math_Ldexp_ev (a0 : Fl) (a1 : Int) : OLe (math_Ldexp_c a0 a1) (math_Ldexp a0 a1) := by
  unfold math_Ldexp_c math_Ldexp
  exact (OLe.bind (math_ldexp_ev _ _) (fun _ => (OLe.refl _)))
noncomputable def math_mod_l60_c (y17 : Fl) (y24 : Fl × Int) : Fl → Option ((Fl) ⊕ (Fl)) := fun s47 =>
  bif (fcmp .geq s47 y17) then
  (Option.bind (math_Frexp_c s47) fun (y63 : Fl × Int) =>
    Option.bind (bif (fcmp .lss y63.1 y24.1) then
      (some (IntKind.wrap .i64 (y63.2 - 1)))
      else
      (some y63.2)) fun (j70 : Int) =>
    Option.bind (math_Ldexp_c y17 (IntKind.wrap .i64 (j70 - y24.2))) fun (y76 : Fl) =>
    some (Sum.inl (farith .sub s47 y76)))
  else
  (some (Sum.inr s47))
theorem math_mod_l60_ev (y17 : Fl) (y24 : Fl × Int) (s47 : Fl) : OLe (math_mod_l60_c y17 y24 s47) (math_mod_l60 y17 y24 s47) := by
  unfold math_mod_l60_c math_mod_l60
  exact (OLe.cond (OLe.bind (math_Frexp_ev _) (fun _ => (OLe.bind (OLe.cond (OLe.refl _) (OLe.refl _)) (fun _ => (OLe.bind (math_Ldexp_ev _ _) (fun _ => (OLe.refl _))))))) (OLe.refl _))
noncomputable def math_mod_c (a0 : Fl) (a1 : Fl) : Option Fl :=
  Option.bind (bif (fcmp .eql a1 (some 0 : Fl)) then
    (some true)
    else
    (Option.bind (math_IsInf_c a0 0) fun (y7 : Bool) =>
      bif y7 then
      (some true)
      else
      (bif (math_IsNaN a0) then
        (some true)
        else
        (some (math_IsNaN a1))))) fun (j1 : Bool) =>
  bif j1 then
  (some math_NaN)
  else
  (Option.bind (math_Abs_c a1) fun (y17 : Fl) =>
    Option.bind (math_Frexp_c y17) fun (y24 : Fl × Int) =>
    Option.bind (bif (fcmp .lss a0 (some 0 : Fl)) then
      (some (fneg a0))
      else
      (some a0)) fun (j31 : Fl) =>
    Option.bind (loopF 1000000 (math_mod_l60_c y17 y24) j31) fun (r45 : Fl) =>
    Option.bind (bif (fcmp .lss a0 (some 0 : Fl)) then
      (some (fneg r45))
      else
      (some r45)) fun (j85 : Fl) =>
    some j85)
theorem math_mod_ev (a0 : Fl) (a1 : Fl) : OLe (math_mod_c a0 a1) (math_mod a0 a1) := by
  unfold math_mod_c math_mod
  exact (OLe.bind (OLe.cond (OLe.refl _) (OLe.bind (math_IsInf_ev _ _) (fun _ => (OLe.cond (OLe.refl _) (OLe.cond (OLe.refl _) (OLe.refl _)))))) (fun _ => (OLe.cond (OLe.refl _) (OLe.bind (math_Abs_ev _) (fun _ => (OLe.bind (math_Frexp_ev _) (fun _ => (OLe.bind (OLe.cond (OLe.refl _) (OLe.refl _)) (fun _ => (OLe.bind (OLe.loop (fun _ => math_mod_l60_ev _ _ _)) (fun _ => (OLe.bind (OLe.cond (OLe.refl _) (OLe.refl _)) (fun _ => (OLe.refl _))))))))))))))
noncomputable def math_Mod_c (a0 : Fl) (a1 : Fl) : Option Fl :=
  Option.bind (math_mod_c a0 a1) fun (y1 : Fl) =>
  some y1
theorem math_Mod_ev (a0 : Fl) (a1 : Fl) : OLe (math_Mod_c a0 a1) (math_Mod a0 a1) := by
  unfold math_Mod_c math_Mod
  exact (OLe.bind (math_mod_ev _ _) (fun _ => (OLe.refl _)))
noncomputable def vec_mod_c (a0 : Fl) (a1 : Fl) : Option Fl :=
  Option.bind (math_Mod_c a0 a1) fun (y1 : Fl) =>
  some y1
theorem vec_mod_ev (a0 : Fl) (a1 : Fl) : OLe (vec_mod_c a0 a1) (vec_mod a0 a1) := by
  unfold vec_mod_c vec_mod
  exact (OLe.bind (math_Mod_ev _ _) (fun _ => (OLe.refl _)))
noncomputable def vec_pair_mod_c (a0 : S121) : Option Fl :=
  Option.bind (vec_mod_c a0.f0 a0.f1) fun (y2 : Fl) =>
  some y2
theorem vec_pair_mod_ev (a0 : S121) : OLe (vec_pair_mod_c a0) (vec_pair_mod a0) := by
  unfold vec_pair_mod_c vec_pair_mod
  exact (OLe.bind (vec_mod_ev _ _) (fun _ => (OLe.refl _)))
noncomputable def vec_Arith_c (a0 : Int) (a1 : Fl) (a2 : Fl) : Option (Fl × Int) :=
  bif ((decide (a0 < 1)) || (decide (a0 > 6))) then
  (some ((some 0 : Fl), 60))
  else
  (bif ((IntKind.wrap .i64 (a0 - 1)) == 0) then
    (some ((vec_told (vec_pair_add (⟨a1, a2⟩ : S121))), 0))
    else
    (bif ((IntKind.wrap .i64 (a0 - 1)) == 1) then
      (some ((vec_told (vec_pair_sub (⟨a1, a2⟩ : S121))), 0))
      else
      (bif ((IntKind.wrap .i64 (a0 - 1)) == 2) then
        (some ((vec_told (vec_pair_mul (⟨a1, a2⟩ : S121))), 0))
        else
        (bif ((IntKind.wrap .i64 (a0 - 1)) == 3) then
          (some ((vec_told (vec_pair_div (⟨a1, a2⟩ : S121))), 0))
          else
          (bif ((IntKind.wrap .i64 (a0 - 1)) == 4) then
            (Option.bind (vec_pair_mod_c (⟨a1, a2⟩ : S121)) fun (y59 : Fl) =>
              some ((vec_told y59), 0))
            else
            (bif ((IntKind.wrap .i64 (a0 - 1)) == 5) then
              (none)
              else
              (none)))))))
theorem vec_Arith_ev (a0 : Int) (a1 : Fl) (a2 : Fl) : OLe (vec_Arith_c a0 a1 a2) (vec_Arith a0 a1 a2) := by
  unfold vec_Arith_c vec_Arith
  exact (OLe.cond (OLe.refl _) (OLe.cond (OLe.refl _) (OLe.cond (OLe.refl _) (OLe.cond (OLe.refl _) (OLe.cond (OLe.refl _) (OLe.cond (OLe.bind (vec_pair_mod_ev _) (fun _ => (OLe.refl _))) (OLe.cond (OLe.refl _) (OLe.refl _))))))))
noncomputable def vec_nameless_c (a0 : List S76) : Option (List S76) :=
  Option.bind (labels_Without_c a0 [(⟨#[95, 95, 110, 97, 109, 101, 95, 95]⟩ : ByteArray)]) fun (y9 : (List S76) × Int) =>
  some y9.1
theorem vec_nameless_ev (a0 : List S76) : OLe (vec_nameless_c a0) (vec_nameless a0) := by
  unfold vec_nameless_c vec_nameless
  exact (OLe.bind (labels_Without_ev _ _) (fun _ => (OLe.refl _)))
noncomputable def vec_Holds_c (a0 : Int) (a1 : Fl) (a2 : Fl) : Option (Bool × Int) :=
  bif ((decide (a0 < 7)) || (decide (a0 > 12))) then
  (some (false, 60))
  else
  (bif ((IntKind.wrap .i64 (a0 - 7)) == 0) then
    (some ((vec_pair_eq (⟨a1, a2⟩ : S121)), 0))
    else
    (bif ((IntKind.wrap .i64 (a0 - 7)) == 1) then
      (some ((vec_pair_ne (⟨a1, a2⟩ : S121)), 0))
      else
      (bif ((IntKind.wrap .i64 (a0 - 7)) == 2) then
        (some ((vec_pair_gt (⟨a1, a2⟩ : S121)), 0))
        else
        (bif ((IntKind.wrap .i64 (a0 - 7)) == 3) then
          (some ((vec_pair_lt (⟨a1, a2⟩ : S121)), 0))
          else
          (bif ((IntKind.wrap .i64 (a0 - 7)) == 4) then
            (some ((vec_pair_ge (⟨a1, a2⟩ : S121)), 0))
            else
            (bif ((IntKind.wrap .i64 (a0 - 7)) == 5) then
              (some ((vec_pair_le (⟨a1, a2⟩ : S121)), 0))
              else
              (none)))))))
theorem vec_Holds_ev (a0 : Int) (a1 : Fl) (a2 : Fl) : OLe (vec_Holds_c a0 a1 a2) (vec_Holds a0 a1 a2) := by
  unfold vec_Holds_c vec_Holds
  exact (OLe.cond (OLe.refl _) (OLe.cond (OLe.refl _) (OLe.cond (OLe.refl _) (OLe.cond (OLe.refl _) (OLe.cond (OLe.refl _) (OLe.cond (OLe.refl _) (OLe.cond (OLe.refl _) (OLe.refl _))))))))
noncomputable def vec_result_c (a0 : Int) (a1 : Fl) (a2 : Fl) (a3 : List S76) (a4 : Fl) (a5 : Bool) : Option (S38 × Bool) :=
  bif (decide (a0 ≤ 6)) then
  (Option.bind (vec_Arith_c a0 a1 a2) fun (y3 : Fl × Int) =>
    Option.bind (vec_nameless_c a3) fun (y10 : (List S76)) =>
    some ((⟨y10, y3.1⟩ : S38), true))
  else
  (Option.bind (vec_Holds_c a0 a1 a2) fun (y24 : Bool × Int) =>
    bif (a5 && y24.1) then
    (Option.bind (vec_nameless_c a3) fun (y31 : (List S76)) =>
      some ((⟨y31, (some 4607182418800017408 : Fl)⟩ : S38), true))
    else
    (bif a5 then
      (Option.bind (vec_nameless_c a3) fun (y46 : (List S76)) =>
        some ((⟨y46, (some 0 : Fl)⟩ : S38), true))
      else
      (some ((⟨a3, a4⟩ : S38), y24.1))))
theorem vec_result_ev (a0 : Int) (a1 : Fl) (a2 : Fl) (a3 : List S76) (a4 : Fl) (a5 : Bool) : OLe (vec_result_c a0 a1 a2 a3 a4 a5) (vec_result a0 a1 a2 a3 a4 a5) := by
  unfold vec_result_c vec_result
  exact (OLe.cond (OLe.bind (vec_Arith_ev _ _ _) (fun _ => (OLe.bind (vec_nameless_ev _) (fun _ => (OLe.refl _))))) (OLe.bind (vec_Holds_ev _ _ _) (fun _ => (OLe.cond (OLe.bind (vec_nameless_ev _) (fun _ => (OLe.refl _))) (OLe.cond (OLe.bind (vec_nameless_ev _) (fun _ => (OLe.refl _))) (OLe.refl _))))))
noncomputable def vec_include_c (a0 : List S76) (a1 : List S76) (a2 : List ByteArray) : Option (List S76) :=
  Option.bind (labels_Without_c a0 a2) fun (y1 : (List S76) × Int) =>
  Option.bind (labels_Keep_c a1 a2) fun (y10 : (List S76) × Int) =>
  Option.bind (app y1.1 y10.1) fun (zs19 : List S76) =>
  sortBindC (fun x0 x1 => some (vec_include_1 x0 x1)) zs19 fun (zs25 : List S76) =>
  some zs25
theorem vec_include_ev (a0 : List S76) (a1 : List S76) (a2 : List ByteArray) : OLe (vec_include_c a0 a1 a2) (vec_include a0 a1 a2) := by
  unfold vec_include_c vec_include
  exact (OLe.bind (labels_Without_ev _ _) (fun _ => (OLe.bind (labels_Keep_ev _ _) (fun _ => (OLe.bind (OLe.refl _) (fun _ => (OLe.sort (fun _ _ => OLe.refl _) (fun _ => (OLe.refl _)))))))))
noncomputable def vec_shown_c (a0 : S38) (a1 : S38) (a2 : S24) : Option (List S76) :=
  bif (a2.f0 != 0) then
  (Option.bind (vec_include_c a0.f0 a1.f0 a2.f3) fun (y5 : (List S76)) =>
    some y5)
  else
  (bif a2.f1 then
    (Option.bind (labels_Keep_c a0.f0 a2.f2) fun (y15 : (List S76) × Int) =>
      some y15.1)
    else
    (Option.bind (labels_Without_c a0.f0 a2.f2) fun (y24 : (List S76) × Int) =>
      some y24.1))
theorem vec_shown_ev (a0 : S38) (a1 : S38) (a2 : S24) : OLe (vec_shown_c a0 a1 a2) (vec_shown a0 a1 a2) := by
  unfold vec_shown_c vec_shown
  exact (OLe.cond (OLe.bind (vec_include_ev _ _ _) (fun _ => (OLe.refl _))) (OLe.cond (OLe.bind (labels_Keep_ev _ _) (fun _ => (OLe.refl _))) (OLe.bind (labels_Without_ev _ _) (fun _ => (OLe.refl _)))))
noncomputable def vec_Binary_l99_c (a3 : S24) (j60 : (List S38) × (List S38)) : ((List (ByteArray × S38)) × Int) → Option (((List (ByteArray × S38)) × Int) ⊕ (((List (ByteArray × S38))) ⊕ ((List S38) × Int))) := fun s85 =>
  bif (decide (s85.2 < (j60.2.length : Int))) then
  (Option.bind (ix j60.2 s85.2) fun (x102 : S38) =>
    Option.bind (vec_signature_c x102.f0 a3) fun (y117 : ByteArray) =>
    Option.bind (some ((mget Ky.str s85.1 y117).getD (⟨[], (some 0 : Fl)⟩ : S38))) fun (y121 : S38) =>
    bif (mget Ky.str s85.1 y117).isSome then
    (some (Sum.inr (Sum.inr ([], 150))))
    else
    (some (Sum.inl ((mput Ky.str s85.1 y117 x102), (IntKind.wrap .i64 (s85.2 + 1))))))
  else
  (some (Sum.inr (Sum.inl s85.1)))
theorem vec_Binary_l99_ev (a3 : S24) (j60 : (List S38) × (List S38)) (s85 : (List (ByteArray × S38)) × Int) : OLe (vec_Binary_l99_c a3 j60 s85) (vec_Binary_l99 a3 j60 s85) := by
  unfold vec_Binary_l99_c vec_Binary_l99
  exact (OLe.cond (OLe.bind (OLe.refl _) (fun _ => (OLe.bind (vec_signature_ev _ _) (fun _ => (OLe.bind (OLe.refl _) (fun _ => (OLe.cond (OLe.refl _) (OLe.refl _)))))))) (OLe.refl _))
noncomputable def vec_Binary_l169_c (a0 : Int) (a3 : S24) (a4 : Bool) (j60 : (List S38) × (List S38)) (r93 : (List (ByteArray × S38))) : ((List (ByteArray × Bool)) × (List S38) × Int) → Option (((List (ByteArray × Bool)) × (List S38) × Int) ⊕ (((List S38)) ⊕ ((List S38) × Int))) := fun s149 =>
  bif (decide (s149.2.2 < (j60.1.length : Int))) then
  (Option.bind ((Option.bind (ix j60.1 s149.2.2) fun (x184 : S38) =>
      Option.bind (vec_signature_c x184.f0 a3) fun (y199 : ByteArray) =>
      Option.bind (some ((mget Ky.str r93 y199).getD (⟨[], (some 0 : Fl)⟩ : S38))) fun (y203 : S38) =>
      bif (!((mget Ky.str r93 y199).isSome)) then
      (some (Sum.inl (s149.1, s149.2.1)))
      else
      (Option.bind (bif (a3.f0 == 2) then
          (some (y203.f1, x184.f1))
          else
          (some (x184.f1, y203.f1))) fun (j213 : Fl × Fl) =>
        Option.bind (vec_result_c a0 j213.1 j213.2 x184.f0 j213.1 a4) fun (y223 : S38 × Bool) =>
        bif (!y223.2) then
        (some (Sum.inl (s149.1, s149.2.1)))
        else
        (Option.bind (bif (a3.f0 == 0) then
            (some ((mget Ky.str s149.1 y199).getD false))
            else
            (some false)) fun (j235 : Bool) =>
          bif j235 then
          (some (Sum.inr (Sum.inr (Sum.inr ([], 150)))))
          else
          (Option.bind (vec_shown_c y223.1 y203 a3) fun (y244 : (List S76)) =>
            Option.bind (app s149.2.1 [(⟨y244, y223.1.f1⟩ : S38)]) fun (zs261 : List S38) =>
            some (Sum.inl ((mput Ky.str s149.1 y199 true), zs261))))) : Option (((List (ByteArray × Bool)) × (List S38)) ⊕ (((List (ByteArray × Bool)) × (List S38) × Int) ⊕ (((List S38)) ⊕ ((List S38) × Int)))))) fun (j172 : ((List (ByteArray × Bool)) × (List S38)) ⊕ (((List (ByteArray × Bool)) × (List S38) × Int) ⊕ (((List S38)) ⊕ ((List S38) × Int)))) =>
    match j172 with
    | Sum.inl j174 => some (Sum.inl (j174.1, j174.2, (IntKind.wrap .i64 (s149.2.2 + 1))))
    | Sum.inr v268 => some v268)
  else
  (some (Sum.inr (Sum.inl s149.2.1)))
theorem vec_Binary_l169_ev (a0 : Int) (a3 : S24) (a4 : Bool) (j60 : (List S38) × (List S38)) (r93 : (List (ByteArray × S38))) (s149 : (List (ByteArray × Bool)) × (List S38) × Int) : OLe (vec_Binary_l169_c a0 a3 a4 j60 r93 s149) (vec_Binary_l169 a0 a3 a4 j60 r93 s149) := by
  unfold vec_Binary_l169_c vec_Binary_l169
  exact (OLe.cond (OLe.bind (OLe.bind (OLe.refl _) (fun _ => (OLe.bind (vec_signature_ev _ _) (fun _ => (OLe.bind (OLe.refl _) (fun _ => (OLe.cond (OLe.refl _) (OLe.bind (OLe.cond (OLe.refl _) (OLe.refl _)) (fun _ => (OLe.bind (vec_result_ev _ _ _ _ _ _) (fun _ => (OLe.cond (OLe.refl _) (OLe.bind (OLe.cond (OLe.refl _) (OLe.refl _)) (fun _ => (OLe.cond (OLe.refl _) (OLe.bind (vec_shown_ev _ _ _) (fun _ => (OLe.bind (OLe.refl _) (fun _ => (OLe.refl _)))))))))))))))))))) (fun j => by cases j with | inl a => exact (OLe.refl _) | inr b => exact (OLe.refl _))) (OLe.refl _))
noncomputable def vec_Binary_c (a0 : Int) (a1 : List S38) (a2 : List S38) (a3 : S24) (a4 : Bool) : Option ((List S38) × Int) :=
  bif ((decide (a0 < 1)) || (decide (a0 > 15))) then
  (some ([], 60))
  else
  (Option.bind (vec_wrong_c a0 a3) fun (y9 : Int) =>
    bif (y9 != 0) then
    (some ([], y9))
    else
    (Option.bind (vec_Vector_c a1) fun (y12 : (List S38) × Int) =>
      bif (y12.2 != 0) then
      (some ([], y12.2))
      else
      (Option.bind (vec_Vector_c a2) fun (y22 : (List S38) × Int) =>
        bif (y22.2 != 0) then
        (some ([], y22.2))
        else
        (bif (decide (a0 ≥ 13)) then
          (Option.bind (vec_sets_c a0 y12.1 y22.1 a3) fun (y38 : (List S38)) =>
            Option.bind (vec_Vector_c y38) fun (y51 : (List S38) × Int) =>
            some (y51.1, y51.2))
          else
          (Option.bind (bif (a3.f0 == 2) then
              (some (y22.1, y12.1))
              else
              (some (y12.1, y22.1))) fun (j60 : (List S38) × (List S38)) =>
            Option.bind (loopF 1000000 (vec_Binary_l99_c a3 j60) (([] : List (ByteArray × S38)), 0)) fun (r83 : ((List (ByteArray × S38))) ⊕ ((List S38) × Int)) =>
            match r83 with
            | Sum.inl r93 => Option.bind (loopF 1000000 (vec_Binary_l169_c a0 a3 a4 j60 r93) (([] : List (ByteArray × Bool)), [], 0)) fun (r147 : ((List S38)) ⊕ ((List S38) × Int)) =>
              match r147 with
              | Sum.inl r161 => Option.bind (vec_Vector_c r161) fun (y273 : (List S38) × Int) =>
                some (y273.1, y273.2)
              | Sum.inr v282 => some v282
            | Sum.inr v283 => some v283)))))
theorem vec_Binary_ev (a0 : Int) (a1 : List S38) (a2 : List S38) (a3 : S24) (a4 : Bool) : OLe (vec_Binary_c a0 a1 a2 a3 a4) (vec_Binary a0 a1 a2 a3 a4) := by
  unfold vec_Binary_c vec_Binary
  exact (OLe.cond (OLe.refl _) (OLe.bind (vec_wrong_ev _ _) (fun _ => (OLe.cond (OLe.refl _) (OLe.bind (vec_Vector_ev _) (fun _ => (OLe.cond (OLe.refl _) (OLe.bind (vec_Vector_ev _) (fun _ => (OLe.cond (OLe.refl _) (OLe.cond (OLe.bind (vec_sets_ev _ _ _ _) (fun _ => (OLe.bind (vec_Vector_ev _) (fun _ => (OLe.refl _))))) (OLe.bind (OLe.cond (OLe.refl _) (OLe.refl _)) (fun _ => (OLe.bind (OLe.loop (fun _ => vec_Binary_l99_ev _ _ _)) (fun j => by cases j with | inl a => exact (OLe.bind (OLe.loop (fun _ => vec_Binary_l169_ev _ _ _ _ _ _)) (fun j => by cases j with | inl a => exact (OLe.bind (vec_Vector_ev _) (fun _ => (OLe.refl _))) | inr b => exact (OLe.refl _))) | inr b => exact (OLe.refl _))))))))))))))))
noncomputable def tocsinref04_Compare_l17_c (a0 : List S76) (a1 : List S76) : Int → Option ((Int) ⊕ ((Unit) ⊕ (Int))) := fun s7 =>
  bif ((decide (s7 < (a0.length : Int))) && (decide (s7 < (a1.length : Int)))) then
  (Option.bind (ix a0 s7) fun (x26 : S76) =>
    Option.bind (ix a1 s7) fun (x34 : S76) =>
    bif ((tocsinref04_side x26.f0 x34.f0) != 0) then
    (some (Sum.inr (Sum.inr (tocsinref04_side x26.f0 x34.f0))))
    else
    (Option.bind (ix a0 s7) fun (x43 : S76) =>
      Option.bind (ix a1 s7) fun (x51 : S76) =>
      bif ((tocsinref04_side x43.f1 x51.f1) != 0) then
      (some (Sum.inr (Sum.inr (tocsinref04_side x43.f1 x51.f1))))
      else
      (some (Sum.inl (IntKind.wrap .i64 (s7 + 1))))))
  else
  (some (Sum.inr (Sum.inl ())))
theorem tocsinref04_Compare_l17_ev (a0 : List S76) (a1 : List S76) (s7 : Int) : OLe (tocsinref04_Compare_l17_c a0 a1 s7) (tocsinref04_Compare_l17 a0 a1 s7) := by
  unfold tocsinref04_Compare_l17_c tocsinref04_Compare_l17
  exact (OLe.cond (OLe.bind (OLe.refl _) (fun _ => (OLe.bind (OLe.refl _) (fun _ => (OLe.cond (OLe.refl _) (OLe.bind (OLe.refl _) (fun _ => (OLe.bind (OLe.refl _) (fun _ => (OLe.cond (OLe.refl _) (OLe.refl _))))))))))) (OLe.refl _))
noncomputable def tocsinref04_Compare_c (a0 : List S76) (a1 : List S76) : Option Int :=
  Option.bind (loopF 1000000 (tocsinref04_Compare_l17_c a0 a1) 0) fun (r5 : (Unit) ⊕ (Int)) =>
  match r5 with
  | Sum.inl r13 => bif (decide ((a0.length : Int) < (a1.length : Int))) then
    (some (-1))
    else
    (bif (decide ((a0.length : Int) > (a1.length : Int))) then
      (some 1)
      else
      (some 0))
  | Sum.inr v62 => some v62
theorem tocsinref04_Compare_ev (a0 : List S76) (a1 : List S76) : OLe (tocsinref04_Compare_c a0 a1) (tocsinref04_Compare a0 a1) := by
  unfold tocsinref04_Compare_c tocsinref04_Compare
  exact (OLe.bind (OLe.loop (fun _ => tocsinref04_Compare_l17_ev _ _ _)) (fun j => by cases j with | inl a => exact (OLe.cond (OLe.refl _) (OLe.cond (OLe.refl _) (OLe.refl _))) | inr b => exact (OLe.refl _)))
noncomputable def tocsinref04_Same_c (a0 : List S76) (a1 : List S76) : Option Bool :=
  Option.bind (tocsinref04_Compare_c a0 a1) fun (y1 : Int) =>
  some (y1 == 0)
theorem tocsinref04_Same_ev (a0 : List S76) (a1 : List S76) : OLe (tocsinref04_Same_c a0 a1) (tocsinref04_Same a0 a1) := by
  unfold tocsinref04_Same_c tocsinref04_Same
  exact (OLe.bind (tocsinref04_Compare_ev _ _) (fun _ => (OLe.refl _)))
noncomputable def tocsinref11_SamePoints_l18_c (a0 : List S38) (a1 : List S38) : Int → Option ((Int) ⊕ ((Unit) ⊕ (Bool))) := fun s8 =>
  bif (decide (s8 < (a0.length : Int))) then
  (Option.bind (Option.bind (ix a0 s8) fun (x26 : S38) =>
      Option.bind (ix a1 s8) fun (x39 : S38) =>
      Option.bind (tocsinref04_Same_c x26.f0 x39.f0) fun (y52 : Bool) =>
      bif (!y52) then
      (some true)
      else
      (Option.bind (ix a0 s8) fun (x55 : S38) =>
        Option.bind (fbits x55.f1) fun (q68 : Int) =>
        Option.bind (ix a1 s8) fun (x70 : S38) =>
        Option.bind (fbits x70.f1) fun (q83 : Int) =>
        some (q68 != q83))) fun (j21 : Bool) =>
    bif j21 then
    (some (Sum.inr (Sum.inr false)))
    else
    (some (Sum.inl (IntKind.wrap .i64 (s8 + 1)))))
  else
  (some (Sum.inr (Sum.inl ())))
theorem tocsinref11_SamePoints_l18_ev (a0 : List S38) (a1 : List S38) (s8 : Int) : OLe (tocsinref11_SamePoints_l18_c a0 a1 s8) (tocsinref11_SamePoints_l18 a0 a1 s8) := by
  unfold tocsinref11_SamePoints_l18_c tocsinref11_SamePoints_l18
  exact (OLe.cond (OLe.bind (OLe.bind (OLe.refl _) (fun _ => (OLe.bind (OLe.refl _) (fun _ => (OLe.bind (tocsinref04_Same_ev _ _) (fun _ => (OLe.cond (OLe.refl _) (OLe.bind (OLe.refl _) (fun _ => (OLe.bind (OLe.refl _) (fun _ => (OLe.bind (OLe.refl _) (fun _ => (OLe.bind (OLe.refl _) (fun _ => (OLe.refl _)))))))))))))))) (fun _ => (OLe.cond (OLe.refl _) (OLe.refl _)))) (OLe.refl _))
noncomputable def tocsinref11_SamePoints_c (a0 : List S38) (a1 : List S38) : Option Bool :=
  bif ((a0.length : Int) != (a1.length : Int)) then
  (some false)
  else
  (Option.bind (loopF 1000000 (tocsinref11_SamePoints_l18_c a0 a1) 0) fun (r6 : (Unit) ⊕ (Bool)) =>
    match r6 with
    | Sum.inl r14 => some true
    | Sum.inr v86 => some v86)
theorem tocsinref11_SamePoints_ev (a0 : List S38) (a1 : List S38) : OLe (tocsinref11_SamePoints_c a0 a1) (tocsinref11_SamePoints a0 a1) := by
  unfold tocsinref11_SamePoints_c tocsinref11_SamePoints
  exact (OLe.cond (OLe.refl _) (OLe.bind (OLe.loop (fun _ => tocsinref11_SamePoints_l18_ev _ _ _)) (fun j => by cases j with | inl a => exact (OLe.refl _) | inr b => exact (OLe.refl _))))
noncomputable def tocsinlaw15_known_c : Option Bool :=
  Option.bind (vec_Binary_c 1 [(⟨[(⟨(⟨#[97]⟩ : ByteArray), (⟨#[49]⟩ : ByteArray)⟩ : S76)], (some 4611686018427387904 : Fl)⟩ : S38)] [(⟨[(⟨(⟨#[97]⟩ : ByteArray), (⟨#[49]⟩ : ByteArray)⟩ : S76), (⟨(⟨#[98]⟩ : ByteArray), (⟨#[120]⟩ : ByteArray)⟩ : S76)], (some 4613937818241073152 : Fl)⟩ : S38)] (⟨0, true, [(⟨#[97]⟩ : ByteArray)], []⟩ : S24) false) fun (y35 : (List S38) × Int) =>
  Option.bind (vec_Arith_c 5 (some 13842939354630062080 : Fl) (some 4613937818241073152 : Fl)) fun (y44 : Fl × Int) =>
  Option.bind (bif (y35.2 == 0) then
    (bif (y44.2 == 0) then
      (bif (fcmp .eql y44.1 (some 13830554455654793216 : Fl)) then
        (Option.bind (ix [(⟨[(⟨(⟨#[97]⟩ : ByteArray), (⟨#[49]⟩ : ByteArray)⟩ : S76)], (some 4611686018427387904 : Fl)⟩ : S38)] 0) fun (x59 : S38) =>
          Option.bind (tocsinref11_SamePoints_c y35.1 [(⟨x59.f0, (some 4617315517961601024 : Fl)⟩ : S38)]) fun (y76 : Bool) =>
          some y76)
        else
        (some false))
      else
      (some false))
    else
    (some false)) fun (j51 : Bool) =>
  some j51
theorem tocsinlaw15_known_ev  : OLe (tocsinlaw15_known_c ) (tocsinlaw15_known ) := by
  unfold tocsinlaw15_known_c tocsinlaw15_known
  exact (OLe.bind (vec_Binary_ev _ _ _ _ _) (fun _ => (OLe.bind (vec_Arith_ev _ _ _) (fun _ => (OLe.bind (OLe.cond (OLe.cond (OLe.cond (OLe.bind (OLe.refl _) (fun _ => (OLe.bind (tocsinref11_SamePoints_ev _ _) (fun _ => (OLe.refl _))))) (OLe.refl _)) (OLe.refl _)) (OLe.refl _)) (fun _ => (OLe.refl _)))))))
end Go.Proofs.YtkjkkimnjpodiaaGreatDoor

/- What must come of fixed calls comes of them: run out by the kernel. -/
set_option maxRecDepth 100000
namespace Go.Proofs.YtkjkkimnjpodiaaGreatDoor
theorem known_true : tocsinlaw15_known = some true := tocsinlaw15_known_ev _ (by kernel_rfl)
end Go.Proofs.YtkjkkimnjpodiaaGreatDoor

set_option linter.unusedVariables false
set_option linter.unusedSimpArgs false
set_option maxRecDepth 100000
namespace Go.Proofs.YtkjkkimnjpodiaaGreatDoor
open Go.GB Go.Lib
open Ieee in
theorem sum_comm (x y : Datum) : Datum.sum x y = Datum.sum y x := by
  cases x <;> cases y <;> try rfl
  · rename_i s m i t n j
    simp only [Datum.sum]
    rw [Int.min_comm j i, Bool.and_comm t s, Int.add_comm (signed t n _)]
  · rename_i s t
    simp only [Datum.sum]
    by_cases h : s = t
    · subst h; rfl
    · rw [if_neg h, if_neg (Ne.symm h)]
open Ieee in
theorem product_comm (x y : Datum) : Datum.product x y = Datum.product y x := by
  cases x <;> cases y <;> try rfl
  · rename_i s m i t n j
    simp only [Datum.product, Bool.xor_comm t s, Nat.mul_comm n m, Int.add_comm j i]
  · rename_i s t
    simp only [Datum.product, Bool.xor_comm t s]
theorem fadd_comm (a b : Fl) : farith .add a b = farith .add b a := by
  cases a <;> cases b <;> try rfl
  rename_i x y
  show Ieee.double.add x y = Ieee.double.add y x
  unfold Ieee.Format.add
  rw [sum_comm]
theorem fmul_comm (a b : Fl) : farith .mul a b = farith .mul b a := by
  cases a <;> cases b <;> try rfl
  rename_i x y
  show Ieee.double.mul x y = Ieee.double.mul y x
  unfold Ieee.Format.mul
  rw [product_comm]
theorem valE_comm (op : Int) (a b : Fl) : valE op a b = valE op b a := by
  unfold valE
  rw [fadd_comm, fmul_comm]
theorem told_known (a : Fl) : ∃ x, vec_told a = some x := by
  unfold vec_told
  cases a with
  | none => exact ⟨_, rfl⟩
  | some x => cases fcmp .neq (some x) (some x) <;> exact ⟨_, rfl⟩
theorem valE_known (op : Int) (a b : Fl) : ∃ x, valE op a b = some x := by
  unfold valE
  split <;> exact told_known _
theorem hasB_snoc (names : List ByteArray) (n s : ByteArray) : hasB (names ++ [n]) s = (hasB names s || hasB [n] s) := by unfold hasB; rw [List.any_append]
theorem shown_pick (on : Bool) (names : List ByteArray) (l : List LB) : shownE (⟨0, on, names, []⟩ : MT) (nlE l) = nlE (pickE (⟨0, on, names, []⟩ : MT) l) := by
  unfold shownE nlE pickE
  cases on with
  | true =>
    simp only [cond_true, List.filter_filter]
    exact List.filter_congr fun x _ => Bool.and_comm _ _
  | false =>
    simp only [cond_false, List.filter_filter, hasB_snoc]
    refine List.filter_congr fun x _ => ?_
    cases hasB names x.f0 <;> cases hasB [nameS] x.f0 <;> rfl
theorem DistP.nodup {l : List PT} (h : DistP l) : l.Nodup := h.imp fun {a b} hab e => hab (by rw [e])
open Classical in
theorem binO_ok {op : Int} {m : MT} {flag : Bool} {l r : List PT} (h : (binO op m flag l r).2 = 0) :
    (vecE l).2 = 0 ∧ (vecE r).2 = 0 ∧ SigDist m (vsort r) ∧ SigDist m (metE op m flag (vsort r) (vsort l)) ∧ (vecE ((vsort l).filterMap (outE op m flag (vsort r)))).2 = 0 ∧
      (binO op m flag l r).1 = vsort ((vsort l).filterMap (outE op m flag (vsort r))) := by
  unfold binO at h ⊢
  by_cases h0 : namesB m.f2 = false
  · rw [if_pos h0] at h; cases h
  rw [if_neg h0] at h ⊢
  by_cases h1 : (vecE l).2 ≠ 0
  · rw [if_pos h1] at h; exact absurd h h1
  rw [if_neg h1] at h ⊢
  by_cases h2 : (vecE r).2 ≠ 0
  · rw [if_pos h2] at h; exact absurd h h2
  rw [if_neg h2] at h ⊢
  by_cases h3 : ¬ SigDist m (vsort r)
  · rw [if_pos h3] at h; cases h
  rw [if_neg h3] at h ⊢
  by_cases h4 : ¬ SigDist m (metE op m flag (vsort r) (vsort l))
  · rw [if_pos h4] at h; cases h
  rw [if_neg h4] at h ⊢
  exact ⟨by simpa using h1, by simpa using h2, by simpa using h3, by simpa using h4, h, (vecE_ok h).2.2.2⟩
theorem outE_turn {op : Int} (ho : op ≤ 6) {on : Bool} {names : List ByteArray} {L R : List PT} (gL : ∀ p ∈ L, (rightE p.f0).1 = 0) (gR : ∀ p ∈ R, (rightE p.f0).1 = 0) (dL : SigDist (⟨0, on, names, []⟩ : MT) L) {x : PT}
    (h : x ∈ L.filterMap (outE op ⟨0, on, names, []⟩ false R)) : x ∈ R.filterMap (outE op ⟨0, on, names, []⟩ false L) := by
  rw [List.mem_filterMap] at h ⊢
  obtain ⟨p, hp, hx⟩ := h
  unfold outE at hx
  cases hq : findQ (⟨0, on, names, []⟩ : MT) R p with
  | none => rw [hq] at hx; cases hx
  | some q =>
    obtain ⟨q1, q2⟩ := findQ_some hq
    refine ⟨q, q1, ?_⟩
    rw [hq] at hx
    unfold outE
    rw [findQ_of dL hp q2.symm]
    simp only [Option.bind_some] at hx ⊢
    unfold resE at hx ⊢
    rw [if_pos ho] at hx ⊢
    simp only [Option.map_some] at hx ⊢
    rw [← hx, valE_comm, shown_pick, shown_pick, sigE_inj (gL p hp) (gR q q1) q2]
theorem turn_same {op : Int} (ho : op = 1 ∨ op = 3) {on : Bool} {names : List ByteArray} {l r : List PT} (h1 : (binO op ⟨0, on, names, []⟩ false l r).2 = 0) (h2 : (binO op ⟨0, on, names, []⟩ false r l).2 = 0) :
    (binO op ⟨0, on, names, []⟩ false l r).1 = (binO op ⟨0, on, names, []⟩ false r l).1 ∧ ∀ p ∈ (binO op ⟨0, on, names, []⟩ false l r).1, FinP p := by
  obtain ⟨a1, a2, a3, a4, a5, a6⟩ := binO_ok h1
  obtain ⟨b1, b2, b3, b4, b5, b6⟩ := binO_ok h2
  have gl := vsort_right (vecE_ok a1).2.1
  have gr := vsort_right (vecE_ok a2).2.1
  obtain ⟨c1, c2, c3, c4⟩ := vecE_ok a5
  obtain ⟨d1, d2, d3, d4⟩ := vecE_ok b5
  have h6 : op ≤ 6 := by omega
  rw [a6, b6]
  constructor
  · refine rise_unique ((vsort_perm _).trans (List.Perm.trans ?_ (vsort_perm _).symm)) (vsort_rise c3) (vsort_rise d3)
    rw [List.perm_ext_iff_of_nodup c3.nodup d3.nodup]
    exact fun x => ⟨outE_turn h6 gl gr b3, outE_turn h6 gr gl a3⟩
  · intro p hp
    have hp := (vsort_perm _).mem_iff.1 hp
    have hl := (right_parts (c2 p hp)).1
    refine ⟨by omega, ?_⟩
    obtain ⟨q, hq, hx⟩ := List.mem_filterMap.1 hp
    unfold outE at hx
    cases hf : findQ (⟨0, on, names, []⟩ : MT) (vsort r) q with
    | none => rw [hf] at hx; cases hx
    | some z =>
      rw [hf] at hx
      simp only [Option.bind_some] at hx
      unfold resE at hx
      rw [if_pos h6] at hx
      simp only [Option.map_some] at hx
      cases hx
      exact valE_known _ _ _
theorem turn_loop {l r : List PT} {m : MT} (hm : m.f2.length < 2147480000) : loopO (tocsinlaw15_VecTurns_l22 l r m) 0 = some (.inl ()) := by
  have step : ∀ (i : Nat) (o : Int), i < 2 → ([1, 3] : List Int)[i]? = some o → (o = 1 ∨ o = 3) → tocsinlaw15_VecTurns_l22 l r m (i : Int) = some (.inl ((i + 1 : Nat) : Int)) := by
    intro i o hi hio ho
    unfold tocsinlaw15_VecTurns_l22
    rw [show decide ((i : Int) < (([1, 3] : List Nat).length : Int)) = true from decide_eq_true (by simp; omega)]
    simp only [cond_true, ix_nat, hio, Option.bind_some, wrap_up (show i < 4294967296 by omega)]
    have hO : OpOk o := by rcases ho with h | h; exact .inl h; exact .inr (.inl h)
    rw [Binary_one hO l r m.f1 m.f2 hm false, Binary_one hO r l m.f1 m.f2 hm false]
    simp only [Option.bind_some]
    by_cases e1 : (binO o ⟨0, m.f1, m.f2, []⟩ false l r).2 = 0
    · by_cases e2 : (binO o ⟨0, m.f1, m.f2, []⟩ false r l).2 = 0
      · obtain ⟨s1, s2⟩ := turn_same ho e1 e2
        have hlen : (binO o ⟨0, m.f1, m.f2, []⟩ false l r).1.length < 2147483648 := by
          obtain ⟨a1, a2, a3, a4, a5, a6⟩ := binO_ok e1
          rw [a6, vsort_len]
          have := (vecE_ok a5).1
          omega
        rw [e1, e2, ← s1, Same_self s2 hlen]
        rfl
      · rw [e1, show ((binO o ⟨0, m.f1, m.f2, []⟩ false r l).2 == 0) = false by simpa using e2]; rfl
    · rw [show ((binO o ⟨0, m.f1, m.f2, []⟩ false l r).2 == 0) = false by simpa using e1]; rfl
  have s0 := step 0 1 (by omega) rfl (.inl rfl)
  have s1 := step 1 3 (by omega) rfl (.inr rfl)
  rw [show ((0 : Nat) : Int) = 0 from rfl] at s0
  rw [loopO_step s0, loopO_step s1]
  refine loopO_done ?_
  unfold tocsinlaw15_VecTurns_l22
  rfl
/-! ### Comparisons -/
theorem bits_eq {a b : Fl} {x y : Nat} (ha : a = some x) (hb : b = some y) : tocsinlaw15_bits a b = some (decide (a = b)) := by
  subst ha hb
  unfold tocsinlaw15_bits
  simp only [fbits, Option.bind_some]
  by_cases h : x = y
  · subst h; simp
  · rw [show decide ((some x : Fl) = some y) = false from decide_eq_false (by simpa using h)]
    have : ((x : Int) == (y : Int)) = false := beq_eq_false_iff_ne.2 (by omega)
    rw [this]
theorem met_loop {l : List PT} {Y : List PT × Int} (hl : ∀ p ∈ l, FinP p) (ll : l.length ≤ 2147480000) {i : Nat} (hi : i < Y.1.length) (hY : ∃ p ∈ l, Y.1[i].f1 = p.f1) :
    loopO (tocsinlaw15_VecTurns_l135 l Y (i : Int)) (false, 0) = some true := by
  obtain ⟨p0, hp0, e0⟩ := hY
  obtain ⟨_, x0, hx0⟩ := hl p0 hp0
  have := up_inv (body := tocsinlaw15_VecTurns_l135 l Y (i : Int)) (fun k => ((l.take k).any (fun x => decide (x.f1 = Y.1[i].f1)), (k : Int))) (n := l.length) (r := l.any (fun x => decide (x.f1 = Y.1[i].f1))) (fun k hk => by
      unfold tocsinlaw15_VecTurns_l135
      rw [show decide ((((l.take k).any (fun x => decide (x.f1 = Y.1[i].f1)), (k : Int)) : Bool × Int).2 < (l.length : Int)) = true from decide_eq_true (by show (k : Int) < _; omega)]
      simp only [cond_true]
      rw [List.take_add_one, List.getElem?_eq_getElem hk, List.any_append, wrap_up (show k < 4294967296 by omega)]
      cases hb : (l.take k).any (fun x => decide (x.f1 = Y.1[i].f1)) with
      | true => simp
      | false =>
        simp only [cond_false, ix_nat, List.getElem?_eq_getElem hk, List.getElem?_eq_getElem hi, Option.bind_some]
        obtain ⟨_, xk, hxk⟩ := hl _ (List.getElem_mem hk)
        rw [bits_eq hxk (e0.trans hx0)]
        simp)
    (by
      unfold tocsinlaw15_VecTurns_l135
      rw [show decide ((((l.take l.length).any (fun x => decide (x.f1 = Y.1[i].f1)), (l.length : Int)) : Bool × Int).2 < (l.length : Int)) = false from decide_eq_false (by show ¬ (l.length : Int) < _; omega), List.take_length]; rfl) 0 (by omega)
  rw [List.take_zero] at this
  rw [show (([] : List PT).any (fun x => decide (x.f1 = Y.1[i].f1)), ((0 : Nat) : Int)) = (false, (0 : Int)) from rfl] at this
  rw [this, show l.any (fun x => decide (x.f1 = Y.1[i].f1)) = true from List.any_eq_true.2 ⟨_, hp0, by simp [e0]⟩]
theorem all_met {l : List PT} {Y : List PT × Int} (hl : ∀ p ∈ l, FinP p) (ll : l.length ≤ 2147480000) (lY : Y.1.length ≤ 1000) (hY : ∀ z ∈ Y.1, ∃ p ∈ l, z.f1 = p.f1) :
    loopO (tocsinlaw15_VecTurns_l117 l Y) 0 = some (.inl ()) := by
  rw [up_all (n := Y.1.length) (fun _ => true) (fun i hi => ?_) ?_]
  · rw [show (List.range Y.1.length).all (fun _ => true) = true by simp]; rfl
  · unfold tocsinlaw15_VecTurns_l117
    rw [show decide ((Y.1.length : Int) < (Y.1.length : Int)) = false from decide_eq_false (by omega)]; rfl
  · unfold tocsinlaw15_VecTurns_l117
    rw [show decide ((i : Int) < (Y.1.length : Int)) = true from decide_eq_true (by omega)]
    simp only [cond_true]
    rw [met_loop hl ll hi (hY _ (List.getElem_mem hi))]
    simp only [Option.bind_some, Bool.not_true, cond_false, wrap_up (show i < 4294967296 by omega)]
noncomputable def isOne (p : PT) : Bool := fcmp .eql p.f1 (some 4607182418800017408 : Fl)
theorem count_loop {Y : List PT × Int} (lY : Y.1.length ≤ 1000) (hY : ∀ z ∈ Y.1, z.f1 = oneF ∨ z.f1 = some 0) :
    loopO (tocsinlaw15_VecTurns_l190 Y) (0, 0) = some (.inl ((Y.1.filter isOne).length : Int)) := by
  have z1 : fcmp .neq (some 0 : Fl) (some 0 : Fl) = false := by kernel_rfl
  have z2 : fcmp .eql (some 0 : Fl) (some 4607182418800017408 : Fl) = false := by kernel_rfl
  have z3 : fcmp .eql (some 4607182418800017408 : Fl) (some 4607182418800017408 : Fl) = true := by kernel_rfl
  have := up_inv (body := tocsinlaw15_VecTurns_l190 Y) (fun k => ((((Y.1.take k).filter isOne).length : Int), (k : Int))) (n := Y.1.length) (r := (.inl ((Y.1.filter isOne).length : Int) : Int ⊕ Bool)) (fun k hk => by
      have hlen := List.length_filter_le isOne (Y.1.take k)
      rw [List.length_take] at hlen
      unfold tocsinlaw15_VecTurns_l190
      rw [show decide ((((((Y.1.take k).filter isOne).length : Int), (k : Int)) : Int × Int).2 < (Y.1.length : Int)) = true from decide_eq_true (by show (k : Int) < _; omega)]
      simp only [cond_true, ix_nat, List.getElem?_eq_getElem hk, Option.bind_some, wrap_up (show k < 4294967296 by omega)]
      rw [List.take_add_one, List.getElem?_eq_getElem hk, List.filter_append]
      simp only [Option.toList_some]
      rcases hY _ (List.getElem_mem hk) with e | e
      · have i1 : isOne Y.1[k] = true := by unfold isOne; rw [e]; exact z3
        rw [e]
        unfold oneF
        rw [z3]
        simp only [cond_true, Option.bind_some, List.filter_cons, i1, if_true, List.filter_nil, List.length_append, List.length_cons, List.length_nil]
        rw [wrap_up (show ((Y.1.take k).filter isOne).length < 4294967296 by omega)]
      · have i1 : isOne Y.1[k] = false := by unfold isOne; rw [e]; exact z2
        rw [e, z2]
        simp only [cond_false, z1, Option.bind_some, List.filter_cons, i1, Bool.false_eq_true, if_false, List.filter_nil, List.append_nil])
    (by
      unfold tocsinlaw15_VecTurns_l190
      rw [show decide ((((((Y.1.take Y.1.length).filter isOne).length : Int), (Y.1.length : Int)) : Int × Int).2 < (Y.1.length : Int)) = false from decide_eq_false (by show ¬ (Y.1.length : Int) < _; omega), List.take_length]; rfl) 0 (by omega)
  rw [List.take_zero] at this
  exact this
theorem count_pair {f g : PT → Option PT} : ∀ {L : List PT}, (∀ p ∈ L, (f p = none ∧ g p = none) ∨ (∃ x y, f p = some x ∧ g p = some y ∧ isOne y = true) ∨ (f p = none ∧ ∃ y, g p = some y ∧ isOne y = false)) →
    ((L.filterMap g).filter isOne).length = (L.filterMap f).length
  | [], _ => rfl
  | p :: L, h => by
    have ih := count_pair (f := f) (g := g) (L := L) fun q hq => h q (by simp [hq])
    rcases h p (by simp) with ⟨h1, h2⟩ | ⟨x, y, h1, h2, h3⟩ | ⟨h1, y, h2, h3⟩
    · rw [List.filterMap_cons_none h1, List.filterMap_cons_none h2]; exact ih
    · rw [List.filterMap_cons_some h1, List.filterMap_cons_some h2, List.filter_cons, if_pos h3, List.length_cons, List.length_cons, ih]
    · rw [List.filterMap_cons_none h1, List.filterMap_cons_some h2, List.filter_cons, if_neg (by rw [h3]; simp)]; exact ih
theorem one_one (l : List LB) : isOne (⟨l, oneF⟩ : PT) = true := by
  show fcmp .eql (some 4607182418800017408 : Fl) (some 4607182418800017408 : Fl) = true
  kernel_rfl
theorem one_zero (l : List LB) : isOne (⟨l, some 0⟩ : PT) = false := by
  show fcmp .eql (some 0 : Fl) (some 4607182418800017408 : Fl) = false
  kernel_rfl
theorem VecTurns_core {op : Int} {l r : List PT} {m : MT} (hl : ∀ p ∈ l, FinP p) (hm : m.f2.length < 2147480000) (ll : l.length ≤ 2147480000) : tocsinlaw15_VecTurns op l r m = some true := by
  unfold tocsinlaw15_VecTurns
  rw [turn_loop hm]
  simp only [Option.bind_some]
  obtain ⟨o, ho, h7⟩ : ∃ o : Int, (bif ((decide (op < 7)) || (decide (op > 12))) then (some 9 : Option Int) else some op) = some o ∧ 7 ≤ o ∧ o ≤ 12 := by
    by_cases h : op < 7 ∨ op > 12
    · refine ⟨9, ?_, by omega, by omega⟩
      rw [show ((decide (op < 7)) || (decide (op > 12))) = true by rcases h with h | h <;> simp [h]]; rfl
    · refine ⟨op, ?_, by omega, by omega⟩
      rw [show ((decide (op < 7)) || (decide (op > 12))) = false by rw [decide_eq_false (by omega), decide_eq_false (by omega)]; rfl]; rfl
  rw [ho]
  simp only [Option.bind_some]
  have hO : OpOk o := .inr (.inr h7)
  rw [Binary_one hO l r m.f1 m.f2 hm false, Binary_one hO l r m.f1 m.f2 hm true]
  simp only [Option.bind_some]
  generalize hM : (⟨0, m.f1, m.f2, []⟩ : MT) = M
  by_cases e1 : (binO o M false l r).2 = 0
  · by_cases e2 : (binO o M true l r).2 = 0
    · obtain ⟨a1, a2, a3, a4, a5, a6⟩ := binO_ok e1
      obtain ⟨b1, b2, b3, b4, b5, b6⟩ := binO_ok e2
      obtain ⟨c1, c2, c3, c4⟩ := vecE_ok a5
      obtain ⟨d1, d2, d3, d4⟩ := vecE_ok b5
      rw [show (((binO o M false l r).2 != 0) || ((binO o M true l r).2 != 0)) = false by rw [e1, e2]; rfl]
      simp only [cond_false]
      have h6 : ¬ o ≤ 6 := by omega
      rw [all_met hl ll (by rw [a6, vsort_len]; exact c1) (fun z hz => ?_)]
      · simp only [Option.bind_some]
        rw [count_loop (by rw [b6, vsort_len]; exact d1) (fun z hz => ?_)]
        · simp only [Option.bind_some]
          have hc : ((binO o M true l r).1.filter isOne).length = (binO o M false l r).1.length := by
            rw [a6, b6, vsort_len, ((vsort_perm _).filter isOne).length_eq]
            refine count_pair fun p hp => ?_
            unfold outE
            cases findQ M (vsort r) p with
            | none => exact .inl ⟨rfl, rfl⟩
            | some q =>
              simp only [Option.bind_some]
              unfold resE
              rw [if_neg h6, if_neg h6]
              cases holdE o p.f1 q.f1 with
              | true => exact .inr (.inl ⟨_, _, rfl, rfl, one_one _⟩)
              | false => exact .inr (.inr ⟨rfl, _, rfl, one_zero _⟩)
          rw [hc]
          simp only [beq_self_eq_true, cond_true, known_true]
          rfl
        · rw [b6] at hz
          obtain ⟨p, hp, hx⟩ := List.mem_filterMap.1 ((vsort_perm _).mem_iff.1 hz)
          unfold outE at hx
          cases hq : findQ M (vsort r) p with
          | none => rw [hq] at hx; cases hx
          | some q =>
            rw [hq] at hx
            simp only [Option.bind_some] at hx
            unfold resE at hx
            rw [if_neg h6] at hx
            simp only [cond_true, Option.map_some] at hx
            cases hx
            cases holdE o p.f1 q.f1 with
            | true => exact .inl rfl
            | false => exact .inr rfl
      · rw [a6] at hz
        obtain ⟨p, hp, hx⟩ := List.mem_filterMap.1 ((vsort_perm _).mem_iff.1 hz)
        refine ⟨p, (vsort_perm _).mem_iff.1 hp, ?_⟩
        unfold outE at hx
        cases hq : findQ M (vsort r) p with
        | none => rw [hq] at hx; cases hx
        | some q =>
          rw [hq] at hx
          simp only [Option.bind_some] at hx
          unfold resE at hx
          rw [if_neg h6] at hx
          simp only [cond_false] at hx
          cases hh : holdE o p.f1 q.f1 with
          | true => rw [hh] at hx; simp only [cond_true, Option.map_some] at hx; cases hx; rfl
          | false => rw [hh] at hx; cases hx
    · rw [show (((binO o M false l r).2 != 0) || ((binO o M true l r).2 != 0)) = true by rw [show ((binO o M true l r).2 != 0) = true by simpa using e2, Bool.or_true]]
      simp only [cond_true, known_true]; rfl
  · rw [show (((binO o M false l r).2 != 0) || ((binO o M true l r).2 != 0)) = true by rw [show ((binO o M false l r).2 != 0) = true by simpa using e1, Bool.true_or]]
    simp only [cond_true, known_true]; rfl
theorem tocsinlaw15_VecTurns_true {I : Imm} {c0 c1 c2 c3 : List Value} {n0 n1 n2 n3 : Nat} (a0 : Int) (a1 a2 : List PT) (a3 : MT) (h0 : (Kd.int .i64).R I a0 c0) (h1 : (Kd.sl kS38).R I a1 c1) (h2 : (Kd.sl kS38).R I a2 c2) (h3 : kS24.R I a3 c3)
    (w0 : wInt .i64 a0 n0) (w1 : wSl wS38 a1 n1) (w2 : wSl wS38 a2 n2) (w3 : wS24 a3 n3) (hn : n0 + n1 + n2 + n3 ≤ 1048576) : tocsinlaw15_VecTurns a0 a1 a2 a3 = some true := by
  have fin : ∀ {l : List PT} {n : Nat}, wSl wS38 l n → n ≤ 1048576 → ∀ p ∈ l, FinP p := fun h hn p hp => by
    obtain ⟨a, ⟨q0, q1, h1, h2, x, h3, _⟩, h4⟩ := h.mem hp
    have := h2.len
    exact ⟨by omega, x, h3⟩
  obtain ⟨q0, q1, q2, q3, hq, _, _, w22, _⟩ := w3
  have := w22.len
  have := w1.len
  exact VecTurns_core (fin w1 (by omega)) (by omega) (by omega)
end Go.Proofs.YtkjkkimnjpodiaaGreatDoor
