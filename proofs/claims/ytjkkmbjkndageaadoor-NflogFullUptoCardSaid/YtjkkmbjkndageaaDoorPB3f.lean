/- Plain laws: label sets compared. -/
import Derived.Test.YtjkkmbjkndageaaDoorPB2f
set_option linter.unusedVariables false
set_option linter.unusedSimpArgs false
set_option maxRecDepth 100000
namespace Go.Proofs.YtjkkmbjkndageaaDoor
open Go.GB Go.Lib
def cmpX (x y : S53) : Int := if cmpS x.f0 y.f0 ≠ 0 then cmpS x.f0 y.f0 else cmpS x.f1 y.f1
def cmpL : List S53 → List S53 → Int
  | [], [] => 0
  | [], _ :: _ => -1
  | _ :: _, [] => 1
  | x :: xs, y :: ys => if cmpX x y ≠ 0 then cmpX x y else cmpL xs ys
theorem strCmp_eq (a b : ByteArray) : strings_Compare a b = cmpS a b := rfl
theorem side_eq (a b : ByteArray) : tocsinref04_side a b = cmpS a b := by
  unfold tocsinref04_side
  rw [less_eq, beq_eq]
  rcases cmpS_range a b with h | h | h <;> rw [h] <;> rfl
theorem cmp1_eq (x y : S53) : labels_Compare_1 x y = cmpX x y := by
  unfold labels_Compare_1 cmpX
  rw [strCmp_eq, strCmp_eq]
  by_cases h : cmpS x.f0 y.f0 = 0
  · rw [if_neg (by simpa using h), show (cmpS x.f0 y.f0 != 0) = false by simp [h]]; rfl
  · rw [if_pos h, show (cmpS x.f0 y.f0 != 0) = true by simpa using h]; rfl
theorem cmpX_range (x y : S53) : cmpX x y = -1 ∨ cmpX x y = 0 ∨ cmpX x y = 1 := by unfold cmpX; split <;> exact cmpS_range _ _
theorem cmpX_self (x : S53) : cmpX x x = 0 := by unfold cmpX; rw [cmpS_self, cmpS_self]; rfl
theorem cmpX_swap (x y : S53) : cmpX y x = - cmpX x y := by
  unfold cmpX
  rw [cmpS_swap x.f0 y.f0, cmpS_swap x.f1 y.f1]
  by_cases h : cmpS x.f0 y.f0 = 0
  · rw [if_neg (by simp [h]), if_neg (by simp [h])]
  · rw [if_pos (by simp [h]), if_pos h]
theorem cmpX_zero {x y : S53} (h : cmpX x y = 0) : x = y := by
  unfold cmpX at h
  obtain ⟨x0, x1⟩ := x
  obtain ⟨y0, y1⟩ := y
  by_cases h1 : cmpS x0 y0 = 0
  · rw [if_neg (by simpa using h1)] at h
    have e1 : x0 = y0 := cmpS_zero h1
    have e2 : x1 = y1 := cmpS_zero h
    rw [e1, e2]
  · rw [if_pos h1] at h; exact absurd h h1
theorem cmpX_trans {x y z : S53} (h : cmpX x y = -1) (k : cmpX y z = -1) : cmpX x z = -1 := by
  unfold cmpX at h k ⊢
  by_cases h1 : cmpS x.f0 y.f0 = 0
  · rw [if_neg (by simpa using h1)] at h
    have e := cmpS_zero h1
    rw [e]
    by_cases h2 : cmpS y.f0 z.f0 = 0
    · rw [if_neg (by simpa using h2)] at k ⊢
      exact cmpS_trans h k
    · rw [if_pos h2] at k ⊢; exact k
  · rw [if_pos h1] at h
    by_cases h2 : cmpS y.f0 z.f0 = 0
    · have e := cmpS_zero h2
      rw [← e, if_pos h1]; exact h
    · rw [if_pos h2] at k
      have := cmpS_trans h k
      rw [if_pos (by omega)]; exact this
theorem cmpL_range : ∀ a b : List S53, cmpL a b = -1 ∨ cmpL a b = 0 ∨ cmpL a b = 1
  | [], [] => by simp [cmpL]
  | [], _ :: _ => by simp [cmpL]
  | _ :: _, [] => by simp [cmpL]
  | x :: xs, y :: ys => by
    unfold cmpL
    split
    · exact cmpX_range _ _
    · exact cmpL_range xs ys
theorem cmpL_self : ∀ a : List S53, cmpL a a = 0
  | [] => rfl
  | x :: xs => by unfold cmpL; rw [if_neg (by simp [cmpX_self])]; exact cmpL_self xs
theorem cmpL_swap : ∀ a b : List S53, cmpL b a = - cmpL a b
  | [], [] => rfl
  | [], _ :: _ => rfl
  | _ :: _, [] => rfl
  | x :: xs, y :: ys => by
    unfold cmpL
    rw [cmpX_swap x y]
    by_cases h : cmpX x y = 0
    · rw [if_neg (by simp [h]), if_neg (by simp [h])]; exact cmpL_swap xs ys
    · rw [if_pos (by simp [h]), if_pos h]
theorem cmpL_zero : ∀ {a b : List S53}, cmpL a b = 0 → a = b
  | [], [], _ => rfl
  | [], _ :: _, h => by simp [cmpL] at h
  | _ :: _, [], h => by simp [cmpL] at h
  | x :: xs, y :: ys, h => by
    unfold cmpL at h
    by_cases h1 : cmpX x y = 0
    · rw [if_neg (by simpa using h1)] at h
      rw [cmpX_zero h1, cmpL_zero h]
    · rw [if_pos h1] at h; exact absurd h h1
theorem cmpL_trans : ∀ {a b c : List S53}, cmpL a b = -1 → cmpL b c = -1 → cmpL a c = -1
  | [], [], _, h, _ => by simp [cmpL] at h
  | [], _ :: _, [], _, h => by simp [cmpL] at h
  | [], _ :: _, _ :: _, _, _ => rfl
  | _ :: _, [], _, h, _ => by simp [cmpL] at h
  | _ :: _, _ :: _, [], _, h => by simp [cmpL] at h
  | x :: xs, y :: ys, z :: zs, h, k => by
    unfold cmpL at h k ⊢
    by_cases h1 : cmpX x y = 0
    · have e := cmpX_zero h1
      rw [if_neg (by simpa using h1)] at h
      rw [e]
      by_cases h2 : cmpX y z = 0
      · rw [if_neg (by simpa using h2)] at k ⊢
        exact cmpL_trans h k
      · rw [if_pos h2] at k ⊢; exact k
    · rw [if_pos h1] at h
      by_cases h2 : cmpX y z = 0
      · rw [← cmpX_zero h2, if_pos h1]; exact h
      · rw [if_pos h2] at k
        have := cmpX_trans h k
        rw [if_pos (by omega)]; exact this
theorem cmpL_pre {l r : List S53} : ∀ (p : List S53), cmpL (p ++ l) (p ++ r) = cmpL l r
  | [] => rfl
  | x :: xs => by
    have h : cmpL (x :: (xs ++ l)) (x :: (xs ++ r)) = if cmpX x x ≠ 0 then cmpX x x else cmpL (xs ++ l) (xs ++ r) := by rw [cmpL]
    rw [List.cons_append, List.cons_append, h, if_neg (by simp [cmpX_self])]
    exact cmpL_pre xs
/-- What a loop over both finds. -/
theorem compare_eq (a b : List S53) (ha : a.length ≤ 2147483648) : labels_Compare a b = some (cmpL a b) := by
  unfold labels_Compare slices_CompareFunc
  have key : ∀ d i : Nat, a.length - i = d → i ≤ a.length → i ≤ b.length →
      (Option.bind (loopO (slices_CompareFunc_l17 a b (fun x0 x1 => some (labels_Compare_1 x0 x1))) (i : Int)) fun (r5 : (Unit) ⊕ (Int)) =>
        match r5 with
        | Sum.inl r13 => bif (decide ((a.length : Int) < (b.length : Int))) then (some (-1)) else (some 0)
        | Sum.inr v43 => some v43) = some (cmpL (a.drop i) (b.drop i)) := by
    intro d
    induction d with
    | zero =>
      intro i hd hia hib
      have hi : i = a.length := by omega
      subst hi
      rw [loopO_done (r := .inl ()) (by
        unfold slices_CompareFunc_l17
        rw [show decide ((a.length : Int) < (a.length : Int)) = false from decide_eq_false (by omega)]; rfl)]
      rw [List.drop_length]
      by_cases hlt : a.length < b.length
      · rw [List.drop_eq_getElem_cons hlt]
        simp [hlt, cmpL]
      · rw [List.drop_eq_nil_of_le (by omega)]
        simp [hlt, cmpL]
    | succ d ih =>
      intro i hd hia hib
      have hlt : i < a.length := by omega
      have hx : ix a (i : Int) = some a[i] := by rw [ix_nat, List.getElem?_eq_getElem hlt]
      rw [List.drop_eq_getElem_cons hlt]
      by_cases hb : i < b.length
      · have hy : ix b (i : Int) = some b[i] := by rw [ix_nat, List.getElem?_eq_getElem hb]
        rw [List.drop_eq_getElem_cons hb]
        unfold cmpL
        have hbody : slices_CompareFunc_l17 a b (fun x0 x1 => some (labels_Compare_1 x0 x1)) (i : Int) = some (if cmpX a[i] b[i] ≠ 0 then .inr (.inr (cmpX a[i] b[i])) else .inl ((i + 1 : Nat) : Int)) := by
          unfold slices_CompareFunc_l17
          rw [show decide ((i : Int) < (a.length : Int)) = true from decide_eq_true (by omega), show decide ((i : Int) ≥ (b.length : Int)) = false from decide_eq_false (by omega)]
          simp only [cond_true, hx, hy, Option.bind_some, cond_false, cmp1_eq, wrap_up (show i < 4294967296 by omega)]
          by_cases h : cmpX a[i] b[i] = 0
          · simp [h]
          · rw [if_pos h, show (cmpX a[i] b[i] != 0) = true by simpa using h]; rfl
        by_cases h : cmpX a[i] b[i] = 0
        · rw [if_neg (by simpa using h)] at hbody ⊢
          rw [loopO_step hbody]
          exact ih (i + 1) (by omega) (by omega) (by omega)
        · rw [if_pos h] at hbody ⊢
          rw [loopO_done hbody]; rfl
      · rw [List.drop_eq_nil_of_le (show b.length ≤ i by omega)]
        have hbody : slices_CompareFunc_l17 a b (fun x0 x1 => some (labels_Compare_1 x0 x1)) (i : Int) = some (.inr (.inr 1)) := by
          unfold slices_CompareFunc_l17
          rw [show decide ((i : Int) < (a.length : Int)) = true from decide_eq_true (by omega), show decide ((i : Int) ≥ (b.length : Int)) = true from decide_eq_true (by omega)]
          simp only [cond_true, hx, Option.bind_some]
        rw [loopO_done hbody]; rfl
  have := key a.length 0 (by omega) (by omega) (by omega)
  rw [show ((0 : Nat) : Int) = 0 from rfl] at this
  exact (congrArg (fun X => Option.bind X (fun (y1 : Int) => some y1)) this).trans rfl
theorem refCompare_eq (a b : List S53) (ha : a.length ≤ 2147483648) : tocsinref04_Compare a b = some (cmpL a b) := by
  unfold tocsinref04_Compare
  have key : ∀ d i : Nat, a.length - i = d → i ≤ a.length → i ≤ b.length →
      (Option.bind (loopO (tocsinref04_Compare_l17 a b) (i : Int)) fun (r5 : (Unit) ⊕ (Int)) =>
        match r5 with
        | Sum.inl r13 => bif (decide ((a.length : Int) < (b.length : Int))) then (some (-1)) else (bif (decide ((a.length : Int) > (b.length : Int))) then (some 1) else (some 0))
        | Sum.inr v62 => some v62) = some (cmpL (a.drop i) (b.drop i)) := by
    intro d
    induction d with
    | zero =>
      intro i hd hia hib
      have hi : i = a.length := by omega
      subst hi
      rw [loopO_done (r := .inl ()) (by
        unfold tocsinref04_Compare_l17
        rw [show decide ((a.length : Int) < (a.length : Int)) = false from decide_eq_false (by omega)]; rfl)]
      rw [List.drop_length]
      by_cases hlt : a.length < b.length
      · rw [List.drop_eq_getElem_cons hlt]
        simp [hlt, cmpL]
      · rw [List.drop_eq_nil_of_le (by omega)]
        have h2 : ¬ b.length < a.length := by omega
        simp [hlt, h2, cmpL]
    | succ d ih =>
      intro i hd hia hib
      have hlt : i < a.length := by omega
      have hx : ix a (i : Int) = some a[i] := by rw [ix_nat, List.getElem?_eq_getElem hlt]
      rw [List.drop_eq_getElem_cons hlt]
      by_cases hb : i < b.length
      · have hy : ix b (i : Int) = some b[i] := by rw [ix_nat, List.getElem?_eq_getElem hb]
        rw [List.drop_eq_getElem_cons hb]
        unfold cmpL
        have hbody : tocsinref04_Compare_l17 a b (i : Int) = some (if cmpX a[i] b[i] ≠ 0 then .inr (.inr (cmpX a[i] b[i])) else .inl ((i + 1 : Nat) : Int)) := by
          unfold tocsinref04_Compare_l17
          rw [show decide ((i : Int) < (a.length : Int)) = true from decide_eq_true (by omega), show decide ((i : Int) < (b.length : Int)) = true from decide_eq_true (by omega)]
          simp only [Bool.and_self, cond_true, hx, hy, Option.bind_some, side_eq, wrap_up (show i < 4294967296 by omega)]
          unfold cmpX
          by_cases h : cmpS a[i].f0 b[i].f0 = 0
          · have h' : ¬ (cmpS a[i].f0 b[i].f0 ≠ 0) := by simpa using h
            simp only [if_neg h', show (cmpS a[i].f0 b[i].f0 != 0) = false by simp [h], cond_false]
            by_cases h2 : cmpS a[i].f1 b[i].f1 = 0
            · simp [h2]
            · rw [if_pos h2, show (cmpS a[i].f1 b[i].f1 != 0) = true by simpa using h2]; rfl
          · have h' : cmpS a[i].f0 b[i].f0 ≠ 0 := h
            simp only [if_pos h', show (cmpS a[i].f0 b[i].f0 != 0) = true by simpa using h, cond_true]
        by_cases h : cmpX a[i] b[i] = 0
        · rw [if_neg (by simpa using h)] at hbody ⊢
          rw [loopO_step hbody]
          exact ih (i + 1) (by omega) (by omega) (by omega)
        · rw [if_pos h] at hbody ⊢
          rw [loopO_done hbody]; rfl
      · rw [List.drop_eq_nil_of_le (show b.length ≤ i by omega)]
        have hbody : tocsinref04_Compare_l17 a b (i : Int) = some (.inr (.inl ())) := by
          unfold tocsinref04_Compare_l17
          rw [show decide ((i : Int) < (a.length : Int)) = true from decide_eq_true (by omega), show decide ((i : Int) < (b.length : Int)) = false from decide_eq_false (by omega)]
          rfl
        rw [loopO_done hbody]
        have h1 : ¬ a.length < b.length := by omega
        have h2 : b.length < a.length := by omega
        simp [h1, h2, cmpL]
  have := key a.length 0 (by omega) (by omega) (by omega)
  rw [show ((0 : Nat) : Int) = 0 from rfl] at this
  exact this
theorem refSame_eq (a b : List S53) (ha : a.length ≤ 2147483648) : tocsinref04_Same a b = some (decide (cmpL a b = 0)) := by
  unfold tocsinref04_Same
  rw [refCompare_eq a b ha]
  rfl
end Go.Proofs.YtjkkmbjkndageaaDoor
