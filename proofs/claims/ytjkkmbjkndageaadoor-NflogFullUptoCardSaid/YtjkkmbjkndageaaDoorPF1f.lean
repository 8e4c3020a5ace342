/- Plain laws: what is right, what lies within; logs of one mark. -/
import Derived.Test.YtjkkmbjkndageaaDoorPD1f
import Derived.Test.YtjkkmbjkndageaaDoorPA3
import Derived.Test.YtjkkmbjkndageaaDoorF1C
import Derived.KernelRfl
set_option linter.unusedVariables false
set_option linter.unusedSimpArgs false
set_option maxRecDepth 100000
namespace Go.Proofs.YtjkkmbjkndageaaDoor
open Go.GB Go.Lib
theorem awake_true : tocsinlaw26_awake = some true := tocsinlaw26_awake_ev _ (by kernel_rfl)
theorem up_all_list {α : Type} {l : List α} {body : Int → Option (Int ⊕ (Unit ⊕ Bool))} (q : α → Bool) (h : ∀ (i : Nat) (hi : i < l.length), body i = some (bif q l[i] then .inl ((i + 1 : Nat) : Int) else .inr (.inr false))) (he : body l.length = some (.inr (.inl ()))) :
    loopO body 0 = some (if l.all q then .inl () else .inr false) := by
  rw [up_all (n := l.length) (fun i => match l[i]? with | some x => q x | none => true) (fun i hi => by rw [h i hi, List.getElem?_eq_getElem hi]) he]
  have : (List.range l.length).all (fun i => match l[i]? with | some x => q x | none => true) = l.all q := by
    rw [Bool.eq_iff_iff, List.all_eq_true, List.all_eq_true]
    constructor
    · intro h x hx
      obtain ⟨i, hi, rfl⟩ := List.mem_iff_getElem.1 hx
      have := h i (by simpa using hi)
      rwa [List.getElem?_eq_getElem hi] at this
    · intro h i hi
      have hi' : i < l.length := by simpa using hi
      rw [List.getElem?_eq_getElem hi']
      exact h _ (List.getElem_mem hi')
  rw [this]
theorem contains_eq {l : Sets} (hl : l.length ≤ 2147483648) {f : List S53 → Option Bool} {q : List S53 → Bool} (hf : ∀ x ∈ l, f x = some (q x)) : slices_ContainsFunc l f = some (l.any q) := by
  have key : ∀ d i : Nat, l.length - i = d → i ≤ l.length → ∃ r, loopO (slices_IndexFunc_f80_l17 l f) (i : Int) = some r ∧ (match r with | .inl _ => (l.drop i).any q = false | .inr y => 0 ≤ y ∧ (l.drop i).any q = true) := by
    intro d
    induction d with
    | zero =>
      intro i hd hi
      obtain rfl : i = l.length := by omega
      refine ⟨.inl (), loopO_done ?_, by simp⟩
      unfold slices_IndexFunc_f80_l17
      rw [show decide ((l.length : Int) < (l.length : Int)) = false from decide_eq_false (by omega)]
      rfl
    | succ d ih =>
      intro i hd hi
      have hlt : i < l.length := by omega
      have e1 : ix l ((i : Nat) : Int) = some l[i] := by rw [ix_nat, List.getElem?_eq_getElem hlt]
      have e4 : decide (((i : Nat) : Int) < (l.length : Int)) = true := decide_eq_true (by omega)
      have e5 := hf l[i] (List.getElem_mem hlt)
      have hd' : (l.drop i).any q = (q l[i] || (l.drop (i + 1)).any q) := by rw [List.drop_eq_getElem_cons hlt]; rfl
      cases hq : q l[i] with
      | true =>
        rw [hq] at e5
        refine ⟨.inr (i : Int), loopO_done ?_, (⟨by omega, by rw [hd', hq]; rfl⟩ : 0 ≤ (i : Int) ∧ (l.drop i).any q = true)⟩
        unfold slices_IndexFunc_f80_l17
        simp only [e4, cond_true, e1, Option.bind_some, e5]
      | false =>
        rw [hq] at e5
        have hb : slices_IndexFunc_f80_l17 l f (i : Int) = some (.inl ((i + 1 : Nat) : Int)) := by
          unfold slices_IndexFunc_f80_l17
          simp only [e4, cond_true, e1, Option.bind_some, e5, cond_false, wrap_up (show i < 4294967296 by omega)]
        obtain ⟨r, h1, h2⟩ := ih (i + 1) (by omega) (by omega)
        refine ⟨r, by rw [loopO_step hb]; exact h1, ?_⟩
        cases r with
        | inl u => show (l.drop i).any q = false; rw [hd', hq]; exact h2
        | inr y => show 0 ≤ y ∧ (l.drop i).any q = true; rw [hd', hq]; exact h2
  obtain ⟨r, h1, h2⟩ := key l.length 0 (by omega) (by omega)
  unfold slices_ContainsFunc slices_IndexFunc_f80
  rw [show ((0 : Nat) : Int) = 0 from rfl] at h1
  rw [h1]
  cases r with
  | inl u => simp only [List.drop_zero] at h2; simp [h2]
  | inr y => simp only [List.drop_zero] at h2; simp [h2.2]; omega
noncomputable def okSets (l : Sets) : Bool := l.all fun x => decide ((rightE x).1 = 0)
theorem right_eq {l : Sets} (hl : l.length ≤ 2147483648) : nflog_right l = some (okSets l) := by
  unfold nflog_right
  rw [contains_eq hl (q := fun x => (rightE x).1 != 0) (fun x _ => by unfold nflog_right_1; rw [Right_eq]; rfl)]
  simp only [Option.bind_some, okSets, Option.some.injEq]
  rw [Bool.eq_iff_iff]
  simp
def inB (a b : Sets) : Bool := a.all fun x => b.any fun y => decide (cmpL x y = 0)
theorem inB_iff {a b : Sets} : inB a b = true ↔ ∀ x ∈ a, x ∈ b := by
  unfold inB
  rw [List.all_eq_true]
  constructor
  · intro h x hx
    have := h x hx
    rw [List.any_eq_true] at this
    obtain ⟨y, hy, hc⟩ := this
    rw [cmpL_zero (of_decide_eq_true hc)]; exact hy
  · intro h x hx
    rw [List.any_eq_true]
    exact ⟨x, h x hx, decide_eq_true (cmpL_self x)⟩
theorem Within_eq {a b : Sets} (ha : Ws a) (hb : b.length ≤ 2147483648) : nflog_Within a b = some (inB a b) := by
  obtain ⟨h1, h2⟩ := ha
  unfold nflog_Within
  rw [up_all_list (l := a) (fun x => b.any fun y => decide (cmpL x y = 0)) (fun i hi => ?_) ?_]
  · unfold inB
    cases a.all (fun x => b.any fun y => decide (cmpL x y = 0)) <;> rfl
  · unfold nflog_Within_l17
    rw [show decide ((a.length : Int) < (a.length : Int)) = false from decide_eq_false (by omega)]
    rfl
  · unfold nflog_Within_l17
    have e1 : ix a ((i : Nat) : Int) = some a[i] := by rw [ix_nat, List.getElem?_eq_getElem hi]
    have e4 : decide (((i : Nat) : Int) < (a.length : Int)) = true := decide_eq_true (by omega)
    simp only [e4, cond_true, e1, Option.bind_some]
    rw [contains_eq hb (q := fun y => decide (cmpL a[i] y = 0)) (fun y _ => by
      unfold nflog_Within_1
      rw [compare_eq _ _ (h2 _ (List.getElem_mem hi))]
      simp only [Option.bind_some, Option.some.injEq]
      rw [Bool.eq_iff_iff]; simp)]
    simp only [Option.bind_some, wrap_up (show i < 4294967296 by omega)]
    cases b.any (fun y => decide (cmpL a[i] y = 0)) <;> rfl
/-- What must be told, of a mark that is there and right. -/
theorem Needs_told {m : S23} (hm : Wm m) (h0 : markE m = 0) {now rep : Int} (hn : 0 ≤ now ∧ now ≤ 1125899906842624) (hp : 1 ≤ rep ∧ rep ≤ 1099511627776) {f r : Sets} (hf : Ws f) (hr : Ws r) (kf : okSets f = true) (kr : okSets r = true) :
    nflog_Needs m true now rep f r = some (if inB f m.f3 = false then (true, 0) else if f.length = 0 then (decide (m.f3.length > 0), 0) else if inB r m.f4 = false then (true, 0) else (decide (m.f2 ≤ now - rep), 0)) := by
  unfold nflog_Needs
  have e0 : (((decide (now < 0) || decide (now > 1125899906842624)) || decide (rep < 1)) || decide (rep > 1099511627776)) = false := by
    rw [decide_eq_false (show ¬ now < 0 by omega), decide_eq_false (show ¬ now > 1125899906842624 by omega), decide_eq_false (show ¬ rep < 1 by omega), decide_eq_false (show ¬ rep > 1099511627776 by omega)]; rfl
  simp only [e0, cond_false, right_eq hf.1, right_eq hr.1, kf, kr, Option.bind_some, Bool.not_true, MRight_eq hm, h0, bne_self_eq_false, Within_eq hf hm.1.1, Within_eq hr hm.2.1]
  cases inB f m.f3 with
  | false => rfl
  | true =>
    simp only [Bool.not_true, cond_false, Bool.true_eq_false, if_false]
    by_cases hl : f.length = 0
    · rw [if_pos hl, show ((f.length : Int) == 0) = true by simp [hl]]
      simp
    · rw [if_neg hl, show ((f.length : Int) == 0) = false by simp; exact fun h => hl (by simp [h])]
      simp only [cond_false]
      cases inB r m.f4 with
      | false => rfl
      | true =>
        simp only [Bool.not_true, cond_false, Bool.true_eq_false, if_false]
        rw [wrap64 (by omega) (by omega)]
theorem sets_eq {l : Sets} (hl : Ws l) : nflog_sets l = some l := by
  obtain ⟨h1, h2⟩ := hl
  unfold nflog_sets
  have h : loopO (nflog_sets_l28 l) ([], 0) = some l := by
    have := up_inv (body := nflog_sets_l28 l) (fun i => (l.take i, (i : Int))) (n := l.length) (r := l) (fun i hi => ?_) ?_ 0 (Nat.zero_le _)
    · simpa using this
    · unfold nflog_sets_l28
      have e1 : ix l ((i : Nat) : Int) = some l[i] := by rw [ix_nat, List.getElem?_eq_getElem hi]
      have e2 : app ([] : List S53) l[i] = some l[i] := by unfold app maxLen'; rw [if_pos (by have := h2 _ (List.getElem_mem hi); unfold Wl at this; simpa using this)]; simp
      have e3 : app (l.take i) [l[i]] = some (l.take (i + 1)) := by
        unfold app maxLen'
        rw [if_pos (by simp; omega), List.take_append_getElem hi]
      have e4 : decide (((i : Nat) : Int) < (l.length : Int)) = true := decide_eq_true (by omega)
      simp only [e4, cond_true, e1, Option.bind_some, slices_Clone, e2, e3, wrap_up (show i < 4294967296 by omega)]
    · unfold nflog_sets_l28
      have e4 : decide ((l.length : Int) < (l.length : Int)) = false := decide_eq_false (by omega)
      simp only [e4, cond_false, List.take_length]
  rw [h]; rfl
theorem own_eq {m : S23} (hm : Wm m) : nflog_own m = some m := by
  unfold nflog_own
  rw [sets_eq hm.1, sets_eq hm.2]; rfl
theorem rising_ok {l : Sets} (h : risingB l = true) : okSets l = true := by
  unfold okSets
  rw [List.all_eq_true]
  exact fun x hx => decide_eq_true (rising_all h x hx)
theorem cmpOk : SortOk (fun l : List S53 => l.length ≤ 2147483648) labels_Compare cmpL := by
  refine ⟨fun x y hx _ => compare_eq x y hx, ⟨fun x => ?_, fun x y z h1 h2 => ?_, fun x y z h1 h2 => ?_⟩, fun x y h1 h2 => ?_⟩
  · rw [cmpL_self]; rfl
  · have a1 := cmpL_range x y
    have a2 := cmpL_range y z
    have b1 := of_decide_eq_true h1
    have b2 := of_decide_eq_true h2
    rw [cmpL_trans (show cmpL x y = -1 by omega) (show cmpL y z = -1 by omega)]; rfl
  · have b1 := of_decide_eq_false h1
    have b2 := of_decide_eq_false h2
    have a1 := cmpL_range x y
    have a2 := cmpL_range y z
    refine decide_eq_false fun h3 => ?_
    have a3 := cmpL_range x z
    by_cases c1 : cmpL x y = 0
    · rw [cmpL_zero c1] at h3; exact b2 h3
    by_cases c2 : cmpL y z = 0
    · rw [← cmpL_zero c2] at h3; exact b1 h3
    have d1 := cmpL_swap x y
    have d2 := cmpL_swap y z
    have := cmpL_trans (show cmpL z y = -1 by omega) (show cmpL y x = -1 by omega)
    have d3 := cmpL_swap x z
    omega
  · have a1 := cmpL_range x y
    have d1 := cmpL_swap x y
    exact cmpL_zero (by omega)
theorem cmpB_self : ∀ a : List UInt8, Lib.compareBytes a a = 0
  | [] => rfl
  | a :: xs => by unfold Lib.compareBytes; rw [if_neg (UInt8.lt_irrefl a), if_neg (UInt8.lt_irrefl a)]; exact cmpB_self xs
theorem cmpB_swap : ∀ a b : List UInt8, Lib.compareBytes b a = - Lib.compareBytes a b
  | [], [] => rfl
  | [], _ :: _ => rfl
  | _ :: _, [] => rfl
  | a :: xs, b :: ys => by
    unfold Lib.compareBytes
    by_cases h1 : a < b
    · have h2 : ¬ b < a := fun h => UInt8.lt_irrefl a (UInt8.lt_trans h1 h)
      rw [if_pos h1, if_neg h2, if_pos h1]; rfl
    · by_cases h2 : b < a
      · rw [if_pos h2, if_neg h1, if_pos h2]
      · rw [if_neg h2, if_neg h1, if_neg h1, if_neg h2]; exact cmpB_swap xs ys
theorem cmpB_zero : ∀ a b : List UInt8, Lib.compareBytes a b = 0 → a = b
  | [], [], _ => rfl
  | [], _ :: _, h => by simp [Lib.compareBytes] at h
  | _ :: _, [], h => by simp [Lib.compareBytes] at h
  | a :: xs, b :: ys, h => by
    unfold Lib.compareBytes at h
    by_cases h1 : a < b
    · rw [if_pos h1] at h; cases h
    · by_cases h2 : b < a
      · rw [if_neg h1, if_pos h2] at h; cases h
      · rw [if_neg h1, if_neg h2] at h
        rw [cmpB_zero xs ys h, UInt8.le_antisymm (UInt8.not_lt.1 h2) (UInt8.not_lt.1 h1)]
theorem str_zero {a b : ByteArray} (h : strings_Compare a b = 0) : a = b := by
  have := cmpB_zero _ _ h
  obtain ⟨⟨x⟩⟩ := a
  obtain ⟨⟨y⟩⟩ := b
  simpa using this
theorem str_self (a : ByteArray) : strings_Compare a a = 0 := cmpB_self _
theorem str_swap (a b : ByteArray) : strings_Compare b a = - strings_Compare a b := cmpB_swap _ _
theorem kc_self (k : S59) : nflog_key_compare k k = 0 := by
  unfold nflog_key_compare
  rw [str_self, str_self]; rfl
theorem kc_swap (a b : S59) : nflog_key_compare b a = - nflog_key_compare a b := by
  unfold nflog_key_compare
  rw [str_swap a.f0 b.f0, str_swap a.f1 b.f1]
  by_cases h : strings_Compare a.f0 b.f0 = 0
  · simp [h]
  · have h1 : (strings_Compare a.f0 b.f0 != 0) = true := by simpa using h
    have h2 : (- strings_Compare a.f0 b.f0 != 0) = true := by simp; omega
    rw [h1, h2]; rfl
theorem kc_zero {a b : S59} (h : nflog_key_compare a b = 0) : a = b := by
  unfold nflog_key_compare at h
  obtain ⟨a0, a1⟩ := a
  obtain ⟨b0, b1⟩ := b
  by_cases h1 : strings_Compare a0 b0 = 0
  · simp only [h1] at h
    have e0 := str_zero h1
    have e1 := str_zero (show strings_Compare a1 b1 = 0 by simpa using h)
    rw [e0, e1]
  · have h2 : (strings_Compare a0 b0 != 0) = true := by simpa using h1
    simp only [h2, cond_true] at h
    exact absurd h h1
theorem index_eq (l : List S76) (q : S76 → Bool) (hl : l.length ≤ 2147483648) : slices_IndexFunc l (fun x => some (q x)) = some (match l.findIdx? q with | none => -1 | some i => (i : Int)) := by
  have key : ∀ (d i : Nat), l.length - i = d → i ≤ l.length → loopO (slices_IndexFunc_l17 l (fun x => some (q x))) (i : Int) = some (match (l.drop i).findIdx? q with | none => .inl () | some j => .inr ((i + j : Nat) : Int)) := by
    intro d
    induction d with
    | zero =>
      intro i hd hi
      have : i = l.length := by omega
      subst this
      refine loopO_of (.done ?_)
      unfold slices_IndexFunc_l17
      rw [show decide ((l.length : Int) < (l.length : Int)) = false from decide_eq_false (by omega)]
      simp
    | succ d ih =>
      intro i hd hi
      have hlt : i < l.length := by omega
      have e1 : ix l ((i : Nat) : Int) = some l[i] := by rw [ix_nat, List.getElem?_eq_getElem hlt]
      have e4 : decide (((i : Nat) : Int) < (l.length : Int)) = true := decide_eq_true (by omega)
      rw [List.drop_eq_getElem_cons hlt, List.findIdx?_cons]
      cases hq : q l[i] with
      | true =>
        refine loopO_of (.done ?_)
        unfold slices_IndexFunc_l17
        simp only [e4, cond_true, e1, Option.bind_some, hq]
        rfl
      | false =>
        have hb : slices_IndexFunc_l17 l (fun x => some (q x)) (i : Int) = some (.inl ((i + 1 : Nat) : Int)) := by
          unfold slices_IndexFunc_l17
          simp only [e4, cond_true, e1, Option.bind_some, hq, cond_false, wrap_up (show i < 4294967296 by omega)]
        rw [loopO_eq, hb]
        simp only [Option.bind_some]
        rw [ih (i + 1) (by omega) (by omega)]
        simp only [Bool.false_eq_true, if_false]
        cases h : (l.drop (i + 1)).findIdx? q with
        | none => rfl
        | some j => simp only [Option.map_some]; rw [show i + 1 + j = i + (j + 1) from by omega]
  unfold slices_IndexFunc
  have := key l.length 0 (by omega) (by omega)
  rw [show ((0 : Nat) : Int) = 0 from rfl] at this
  rw [this, List.drop_zero]
  cases h : l.findIdx? q with
  | none => rfl
  | some j => simp
noncomputable def ge (k : S59) (e : S76) : Bool := decide (nflog_key_compare e.f0 k ≥ 0)
def keyEq (a b : S59) : Bool := (a.f0.toList == b.f0.toList) && (a.f1.toList == b.f1.toList)
theorem keyEq_iff {a b : S59} : keyEq a b = true ↔ a = b := by
  obtain ⟨a0, a1⟩ := a
  obtain ⟨b0, b1⟩ := b
  unfold keyEq
  rw [Bool.and_eq_true, toList_inj, toList_inj]
  simp
theorem find_eq (l : List S76) (k : S59) (hl : l.length ≤ 2147483648) : nflog_list_find ⟨l⟩ k = match l.findIdx? (ge k) with
    | none => some ((l.length : Int), false)
    | some i => Option.bind l[i]? fun e => some ((i : Int), keyEq e.f0 k) := by
  unfold nflog_list_find
  have := index_eq l (ge k) hl
  have e : (fun x0 => some (nflog_list_find_1 x0 k)) = (fun x => some (ge k x)) := rfl
  simp only [e, this, Option.bind_some]
  cases h : l.findIdx? (ge k) with
  | none => rfl
  | some i =>
    simp only
    rw [show decide ((i : Int) < 0) = false from decide_eq_false (by omega)]
    simp only [cond_false, ix_nat]
    rfl
theorem Find_nil (k0 k1 : ByteArray) : nflog_Log_Find ⟨⟨[]⟩⟩ k0 k1 = some (zm, false) := by
  unfold nflog_Log_Find
  rw [find_eq [] _ (by decide)]
  rfl
theorem Find_at (l : List S76) (hl : l.length ≤ 2147483648) {k0 k1 : ByteArray} {i : Nat} {e : S76} (hi : l.findIdx? (ge ⟨k0, k1⟩) = some i) (he : l[i]? = some e) (hw : Wm e.f1) : nflog_Log_Find ⟨⟨l⟩⟩ k0 k1 = some (if keyEq e.f0 ⟨k0, k1⟩ then (e.f1, true) else (zm, false)) := by
  unfold nflog_Log_Find
  simp only [find_eq l ⟨k0, k1⟩ hl, hi, he, Option.bind_some]
  cases hk : keyEq e.f0 ⟨k0, k1⟩ with
  | false => rfl
  | true =>
    simp only [Bool.not_true, cond_false, ix_nat, he, Option.bind_some, own_eq hw]
    rfl
theorem Find_out (l : List S76) (hl : l.length ≤ 2147483648) {k0 k1 : ByteArray} (hi : l.findIdx? (ge ⟨k0, k1⟩) = none) : nflog_Log_Find ⟨⟨l⟩⟩ k0 k1 = some (zm, false) := by
  unfold nflog_Log_Find
  simp only [find_eq l ⟨k0, k1⟩ hl, hi, Option.bind_some]
  rfl
theorem ge_self (k : S59) (m : S23) : ge k ⟨k, m⟩ = true := by unfold ge; rw [kc_self]; rfl
theorem keyEq_self (k : S59) : keyEq k k = true := keyEq_iff.2 rfl
def keyOf (m : S23) : S59 := ⟨m.f0, m.f1⟩
def entOf (m : S23) : S76 := ⟨keyOf m, m⟩
theorem Find_one {m : S23} (hm : Wm m) (k0 k1 : ByteArray) : nflog_Log_Find ⟨⟨[entOf m]⟩⟩ k0 k1 = some (if keyEq (keyOf m) ⟨k0, k1⟩ then (m, true) else (zm, false)) := by
  cases hg : ge ⟨k0, k1⟩ (entOf m) with
  | true => exact Find_at [entOf m] (by simp) (i := 0) (e := entOf m) (by simp [List.findIdx?_cons, hg]) rfl hm
  | false =>
    rw [Find_out [entOf m] (by simp) (by simp [List.findIdx?_cons, hg])]
    cases hk : keyEq (keyOf m) ⟨k0, k1⟩ with
    | false => rfl
    | true =>
      have := keyEq_iff.1 hk
      have h2 := ge_self ⟨k0, k1⟩ m
      rw [← this] at h2
      rw [← this] at hg
      unfold entOf at hg
      rw [h2] at hg
      cases hg
theorem Put_nil {m : S23} (hm : Wm m) : nflog_Log_Put ⟨⟨[]⟩⟩ m = some (if markE m ≠ 0 then (markE m, ⟨⟨[]⟩⟩) else (0, ⟨⟨[entOf m]⟩⟩)) := by
  unfold nflog_Log_Put
  simp only [MRight_eq hm, Option.bind_some]
  by_cases h0 : markE m = 0
  · rw [if_neg (by simpa using h0), h0]
    simp only [bne_self_eq_false, cond_false, Find_nil, Option.bind_some, Bool.false_and, Bool.not_false, cond_true, own_eq hm, nflog_list_put, find_eq [] _ (show ([] : List S76).length ≤ 2147483648 by decide), List.findIdx?_nil]
    rfl
  · rw [if_pos h0, show (markE m != 0) = true by simpa using h0]; rfl
theorem Find_self {m : S23} (hm : Wm m) : nflog_Log_Find ⟨⟨[entOf m]⟩⟩ m.f0 m.f1 = some (m, true) := by
  rw [Find_one hm, show keyEq (keyOf m) ⟨m.f0, m.f1⟩ = true from keyEq_self _]; rfl
end Go.Proofs.YtjkkmbjkndageaaDoor
