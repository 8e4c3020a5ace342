/- The plain law of NflogApart. -/
import Derived.Test.YtlkmfhccpcncnaaDoorGP2
import Derived.Sort.Walk0
set_option linter.unusedVariables false
set_option maxRecDepth 100000
namespace Go.Proofs.YtlkmfhccpcncnaaDoor
open Go.GB
theorem cmp_self : ∀ a : List UInt8, Lib.compareBytes a a = 0
  | [] => rfl
  | a :: xs => by unfold Lib.compareBytes; rw [if_neg (UInt8.lt_irrefl a), if_neg (UInt8.lt_irrefl a)]; exact cmp_self xs
theorem cmp_swap : ∀ a b : List UInt8, Lib.compareBytes b a = - Lib.compareBytes a b
  | [], [] => rfl
  | [], _ :: _ => rfl
  | _ :: _, [] => rfl
  | a :: xs, b :: ys => by
    unfold Lib.compareBytes
    by_cases h1 : a < b
    · have h2 : ¬ b < a := fun h => UInt8.lt_irrefl a (UInt8.lt_trans h1 h)
      rw [if_pos h1, if_neg h2, if_pos h1]; rfl
    · by_cases h2 : b < a
      · rw [if_pos h2, if_neg h1, if_pos h2]
      · rw [if_neg h2, if_neg h1, if_neg h1, if_neg h2]; exact cmp_swap xs ys
theorem cmp_zero : ∀ a b : List UInt8, Lib.compareBytes a b = 0 → a = b
  | [], [], _ => rfl
  | [], _ :: _, h => by simp [Lib.compareBytes] at h
  | _ :: _, [], h => by simp [Lib.compareBytes] at h
  | a :: xs, b :: ys, h => by
    unfold Lib.compareBytes at h
    by_cases h1 : a < b
    · rw [if_pos h1] at h; cases h
    · by_cases h2 : b < a
      · rw [if_neg h1, if_pos h2] at h; cases h
      · rw [if_neg h1, if_neg h2] at h
        rw [cmp_zero xs ys h, UInt8.le_antisymm (UInt8.not_lt.1 h2) (UInt8.not_lt.1 h1)]
theorem str_zero {a b : ByteArray} (h : strings_Compare a b = 0) : a = b := by
  have := cmp_zero _ _ h
  obtain ⟨⟨x⟩⟩ := a
  obtain ⟨⟨y⟩⟩ := b
  simpa using this
theorem str_self (a : ByteArray) : strings_Compare a a = 0 := cmp_self _
theorem str_swap (a b : ByteArray) : strings_Compare b a = - strings_Compare a b := cmp_swap _ _
theorem kc_self (k : S82) : nflog_key_compare k k = 0 := by
  unfold nflog_key_compare
  rw [str_self, str_self]; rfl
theorem kc_swap (a b : S82) : nflog_key_compare b a = - nflog_key_compare a b := by
  unfold nflog_key_compare
  rw [str_swap a.f0 b.f0, str_swap a.f1 b.f1]
  by_cases h : strings_Compare a.f0 b.f0 = 0
  · simp [h]
  · have h1 : (strings_Compare a.f0 b.f0 != 0) = true := by simpa using h
    have h2 : (- strings_Compare a.f0 b.f0 != 0) = true := by simp; omega
    rw [h1, h2]; rfl
theorem kc_zero {a b : S82} (h : nflog_key_compare a b = 0) : a = b := by
  unfold nflog_key_compare at h
  obtain ⟨a0, a1⟩ := a
  obtain ⟨b0, b1⟩ := b
  by_cases h1 : strings_Compare a0 b0 = 0
  · simp only [h1] at h
    have e0 := str_zero h1
    have e1 := str_zero (show strings_Compare a1 b1 = 0 by simpa using h)
    rw [e0, e1]
  · have h2 : (strings_Compare a0 b0 != 0) = true := by simpa using h1
    simp only [h2, cond_true] at h
    exact absurd h h1
theorem index_eq (l : List S86) (q : S86 → Bool) (hl : l.length ≤ 2147483648) : slices_IndexFunc l (fun x => some (q x)) = some (match l.findIdx? q with | none => -1 | some i => (i : Int)) := by
  have key : ∀ (d i : Nat), l.length - i = d → i ≤ l.length → loopO (slices_IndexFunc_l17 l (fun x => some (q x))) (i : Int) = some (match (l.drop i).findIdx? q with | none => .inl () | some j => .inr ((i + j : Nat) : Int)) := by
    intro d
    induction d with
    | zero =>
      intro i hd hi
      have : i = l.length := by omega
      subst this
      refine loopO_of (.done ?_)
      unfold slices_IndexFunc_l17
      rw [show decide ((l.length : Int) < (l.length : Int)) = false from decide_eq_false (by omega)]
      simp
    | succ d ih =>
      intro i hd hi
      have hlt : i < l.length := by omega
      have e1 : ix l ((i : Nat) : Int) = some l[i] := by rw [ix_nat, List.getElem?_eq_getElem hlt]
      have e4 : decide (((i : Nat) : Int) < (l.length : Int)) = true := decide_eq_true (by omega)
      rw [List.drop_eq_getElem_cons hlt, List.findIdx?_cons]
      cases hq : q l[i] with
      | true =>
        refine loopO_of (.done ?_)
        unfold slices_IndexFunc_l17
        simp only [e4, cond_true, e1, Option.bind_some, hq]
        rfl
      | false =>
        have hb : slices_IndexFunc_l17 l (fun x => some (q x)) (i : Int) = some (.inl ((i + 1 : Nat) : Int)) := by
          unfold slices_IndexFunc_l17
          simp only [e4, cond_true, e1, Option.bind_some, hq, cond_false, wrap_up (show i < 4294967296 by omega)]
        rw [loopO_eq, hb]
        simp only [Option.bind_some]
        rw [ih (i + 1) (by omega) (by omega)]
        simp only [Bool.false_eq_true, if_false]
        cases h : (l.drop (i + 1)).findIdx? q with
        | none => rfl
        | some j => simp only [Option.map_some]; rw [show i + 1 + j = i + (j + 1) from by omega]
  unfold slices_IndexFunc
  have := key l.length 0 (by omega) (by omega)
  rw [show ((0 : Nat) : Int) = 0 from rfl] at this
  rw [this, List.drop_zero]
  cases h : l.findIdx? q with
  | none => rfl
  | some j => simp
noncomputable def ge (k : S82) (e : S86) : Bool := decide (nflog_key_compare e.f0 k ≥ 0)
def keyEq (a b : S82) : Bool := (a.f0.toList == b.f0.toList) && (a.f1.toList == b.f1.toList)
theorem keyEq_iff {a b : S82} : keyEq a b = true ↔ a = b := by
  obtain ⟨a0, a1⟩ := a
  obtain ⟨b0, b1⟩ := b
  unfold keyEq
  rw [Bool.and_eq_true, toList_inj, toList_inj]
  simp
theorem find_eq (l : List S86) (k : S82) (hl : l.length ≤ 2147483648) : nflog_list_find ⟨l⟩ k = match l.findIdx? (ge k) with
    | none => some ((l.length : Int), false)
    | some i => Option.bind l[i]? fun e => some ((i : Int), keyEq e.f0 k) := by
  unfold nflog_list_find
  have := index_eq l (ge k) hl
  have e : (fun x0 => some (nflog_list_find_1 x0 k)) = (fun x => some (ge k x)) := rfl
  simp only [e, this, Option.bind_some]
  cases h : l.findIdx? (ge k) with
  | none => rfl
  | some i =>
    simp only
    rw [show decide ((i : Int) < 0) = false from decide_eq_false (by omega)]
    simp only [cond_false, ix_nat]
    rfl
theorem side_self (a : ByteArray) : tocsinref04_side a a = 0 := by
  unfold tocsinref04_side
  have h1 : Op.bytesLess a.toList a.toList = false := by rw [bytesLess_eq]; exact decide_eq_false (List.lt_irrefl _)
  have h2 : (a.toList == a.toList) = true := by simp
  rw [h1, h2]; rfl
theorem refSame_self {x : List S79} (hx : Wl x) : tocsinref04_Same x x = some true := by
  unfold Wl at hx
  have h : loopO (tocsinref04_Compare_l17 x x) 0 = some (.inl ()) := by
    have := up_inv (body := tocsinref04_Compare_l17 x x) (fun i => (i : Int)) (n := x.length) (r := .inl ()) (fun i hi => ?_) ?_ 0 (Nat.zero_le _)
    · exact this
    · unfold tocsinref04_Compare_l17
      have e1 : ix x ((i : Nat) : Int) = some x[i] := by rw [ix_nat, List.getElem?_eq_getElem hi]
      have e4 : decide (((i : Nat) : Int) < (x.length : Int)) = true := decide_eq_true (by omega)
      simp only [e4, Bool.and_self, cond_true, e1, Option.bind_some, side_self, wrap_up (show i < 4294967296 by omega)]
      rfl
    · unfold tocsinref04_Compare_l17
      rw [show decide ((x.length : Int) < (x.length : Int)) = false from decide_eq_false (by omega)]; rfl
  unfold tocsinref04_Same tocsinref04_Compare
  rw [h]
  simp
theorem refSets_self {l : List (List S79)} (hl : Ws l) : tocsinref26_SameSets l l = some true := by
  obtain ⟨h1, h2⟩ := hl
  have h : loopO (tocsinref26_SameSets_l18 l l) 0 = some (.inl ()) := by
    have := up_inv (body := tocsinref26_SameSets_l18 l l) (fun i => (i : Int)) (n := l.length) (r := .inl ()) (fun i hi => ?_) ?_ 0 (Nat.zero_le _)
    · exact this
    · unfold tocsinref26_SameSets_l18
      have e1 : ix l ((i : Nat) : Int) = some l[i] := by rw [ix_nat, List.getElem?_eq_getElem hi]
      have e4 : decide (((i : Nat) : Int) < (l.length : Int)) = true := decide_eq_true (by omega)
      simp only [e4, cond_true, e1, Option.bind_some, refSame_self (h2 _ (List.getElem_mem hi)), wrap_up (show i < 4294967296 by omega)]
      rfl
    · unfold tocsinref26_SameSets_l18
      rw [show decide ((l.length : Int) < (l.length : Int)) = false from decide_eq_false (by omega)]; rfl
  unfold tocsinref26_SameSets
  rw [h]
  simp
theorem refMark_self {m : S23} (hm : Wm m) : tocsinref26_Same m m = some true := by
  unfold tocsinref26_Same
  rw [refSets_self hm.1, refSets_self hm.2]
  simp
end Go.Proofs.YtlkmfhccpcncnaaDoor
