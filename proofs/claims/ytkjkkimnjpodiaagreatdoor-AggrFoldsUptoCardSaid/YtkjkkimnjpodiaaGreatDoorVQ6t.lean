/- Plain laws: what values come to, in the program and in the document. -/
import Derived.Test.YtkjkkimnjpodiaaGreatDoorGS3t
import Derived.Test.YtkjkkimnjpodiaaGreatDoorGB34t
/- Stable sorting: the library's merge in place. -/
set_option linter.unusedVariables false
set_option linter.unusedSimpArgs false
namespace Go.GB
section
variable {α : Type} {cf : α → α → Int}
theorem split_at {Y : List α} {k : Nat} (h : k ≤ Y.length) : ∃ Y1 Y2, Y = Y1 ++ Y2 ∧ Y1.length = k := ⟨Y.take k, Y.drop k, (List.take_append_drop _ _).symm, by rw [List.length_take]; omega⟩
theorem snoc_of {Y : List α} (h : 0 < Y.length) : ∃ Y' z, Y = Y' ++ [z] := ⟨Y.dropLast, Y.getLast (by intro e; rw [e] at h; cases h), (List.dropLast_concat_getLast _).symm⟩
theorem cons_of {Y : List α} (h : 0 < Y.length) : ∃ z Y', Y = z :: Y' := by
  cases Y with
  | nil => cases h
  | cons z Y' => exact ⟨z, Y', rfl⟩
noncomputable abbrev symF (cf : α → α → Int) : ((List α × Int × Int × Int) → Option (List α)) → (List α × Int × Int × Int) → Option (List α) :=
  fun rec_ x => gsymMerge_b cf (fun a0 a1 a2 a3 => rec_ (a0, a1, a2, a3)) x.1 x.2.1 x.2.2.1 x.2.2.2
/-- One element ahead of a sorted list. -/
theorem gsym_one (hs : Swo (ltc cf)) (rec_ : List α → Int → Int → Int → Option (List α)) {P Y S : List α} {x : α} (hY : 0 < Y.length) (hSY : Sorted (ltc cf) Y) (hlen : P.length + 1 + Y.length + S.length < 2147483648) :
    ∃ Z, gsymMerge_b cf rec_ (P ++ ([x] ++ (Y ++ S))) ((P.length : Nat) : Int) ((P.length + 1 : Nat) : Int) ((P.length + 1 + Y.length : Nat) : Int) = some (P ++ (Z ++ S)) ∧ StS (ltc cf) ([x] ++ Y) Z := by
  have hx : ix (P ++ ([x] ++ (Y ++ S))) ((P.length : Nat) : Int) = some x := ix_at (A := P) (B := Y ++ S) (by simp) rfl
  obtain ⟨st, h1, h2, h3, h4, h5⟩ := bs_spec (body := gsymMerge_l17 cf (P ++ ([x] ++ (Y ++ S))) ((P.length : Nat) : Int)) (P.length + 1) (P.length + 1 + Y.length) (fun h => match Y[h - (P.length + 1)]? with | some y => ltc cf y x | none => false)
    (fun i j hi hij hj => by
      have hk : (i + j) / 2 - (P.length + 1) < Y.length := by omega
      have hy : ix (P ++ ([x] ++ (Y ++ S))) (((i + j) / 2 : Nat) : Int) = some (Y[(i + j) / 2 - (P.length + 1)]) := by
        rw [ix_nat, List.getElem?_append_right (by omega), List.getElem?_append_right (by simp; omega), List.getElem?_append_left (by simp; omega), ← List.getElem?_eq_getElem]
        congr 1
      unfold gsymMerge_l17
      simp only [mid_eq (show i + j < 4294967296 by omega)]
      rw [show decide ((i : Int) < (j : Int)) = true from decide_eq_true (by omega)]
      simp only [cond_true, hy, hx, Option.bind_some, List.getElem?_eq_getElem hk]
      rw [wrap_up (by omega)]
      unfold ltc
      cases decide (cf Y[(i + j) / 2 - (P.length + 1)] x < 0) <;> rfl)
    (fun i => by unfold gsymMerge_l17; rw [show decide ((i : Int) < (i : Int)) = false from decide_eq_false (by omega)]; rfl)
    (Y.length) (P.length + 1) (P.length + 1 + Y.length) (by omega) (Nat.le_refl _) (by omega) (Nat.le_refl _) (fun h => by omega) (fun h => by omega)
  obtain ⟨Y1, Y2, rfl, hY1⟩ := split_at (Y := Y) (k := st - (P.length + 1)) (by omega)
  have hmv := gsym_right (cf := cf) P (Y2 ++ S) x ((st : Nat) : Int) Y1 [] (by simp; omega) (by simp at hlen ⊢; omega)
  simp only [List.nil_append, List.length_nil, Nat.add_zero] at hmv
  refine ⟨Y1 ++ ([x] ++ Y2), ?_, ?_⟩
  · unfold gsymMerge_b
    rw [show ((IntKind.wrap .i64 (((P.length + 1 : Nat) : Int) - ((P.length : Nat) : Int))) == 1) = true by rw [wrap64 (by omega) (by omega)]; simp; omega]
    simp only [cond_true]
    rw [h1]
    simp only [Option.bind_some]
    rw [show P ++ ([x] ++ ((Y1 ++ Y2) ++ S)) = P ++ (x :: (Y1 ++ (Y2 ++ S))) from by simp, hmv]
    simp
  · have c2 : ∀ y ∈ Y1, ltc cf y x = true := by
      by_cases h0 : Y1.length = 0
      · rw [List.length_eq_zero_iff.1 h0]; intro y hy; cases hy
      · obtain ⟨Y', z, rfl⟩ := snoc_of (Y := Y1) (by omega)
        have hz := h4 (by omega)
        simp only [List.length_append, List.length_cons, List.length_nil] at hY1
        rw [show st - 1 - (P.length + 1) = Y'.length from by omega] at hz
        rw [show ((Y' ++ [z]) ++ Y2)[Y'.length]? = some z from by simp] at hz
        intro y hy
        rcases List.mem_append.1 hy with hy | hy
        · exact hs.le_lt (hSY.left.last y hy) hz
        · rw [List.mem_singleton.1 hy]; exact hz
    have c3 : ∀ y ∈ Y2, ltc cf y x = false := by
      by_cases h0 : Y2.length = 0
      · rw [List.length_eq_zero_iff.1 h0]; intro y hy; cases hy
      · obtain ⟨z, Y', rfl⟩ := cons_of (Y := Y2) (by omega)
        have hz := h5 (by simp; omega)
        rw [show st - (P.length + 1) = Y1.length from by omega] at hz
        rw [show (Y1 ++ z :: Y')[Y1.length]? = some z from by simp] at hz
        intro y hy
        rcases List.mem_cons.1 hy with rfl | hy
        · exact hz
        · exact hs.trans x z y hz (hSY.right.head y hy)
    have := merge4 hs (X1 := []) (X2 := [x]) (Y1 := Y1) (Y2 := Y2) (Z1 := Y1) (Z2 := [x] ++ Y2) (List.pairwise_singleton _ _) hSY (fun x hx => by cases hx) (fun u hu y hy => by rw [List.mem_singleton.1 hu]; exact c2 y hy)
      (StS.self hSY.left) (StS.self (List.pairwise_cons.2 ⟨c3, hSY.right⟩))
    simpa using this
/-- One element behind a sorted list. -/
theorem gsym_end (hs : Swo (ltc cf)) (rec_ : List α → Int → Int → Int → Option (List α)) {P X S : List α} {y : α} (hX : 1 < X.length) (hSX : Sorted (ltc cf) X) (hlen : P.length + X.length + 1 + S.length < 2147483648) :
    ∃ Z, gsymMerge_b cf rec_ (P ++ (X ++ ([y] ++ S))) ((P.length : Nat) : Int) ((P.length + X.length : Nat) : Int) ((P.length + X.length + 1 : Nat) : Int) = some (P ++ (Z ++ S)) ∧ StS (ltc cf) (X ++ [y]) Z := by
  have hy : ix (P ++ (X ++ ([y] ++ S))) ((P.length + X.length : Nat) : Int) = some y := ix_at (A := P ++ X) (B := S) (by simp) (by simp)
  obtain ⟨st, h1, h2, h3, h4, h5⟩ := bs_spec (body := gsymMerge_l129 cf (P ++ (X ++ ([y] ++ S))) ((P.length + X.length : Nat) : Int)) P.length (P.length + X.length) (fun h => match X[h - P.length]? with | some x => !(ltc cf y x) | none => false)
    (fun i j hi hij hj => by
      have hk : (i + j) / 2 - P.length < X.length := by omega
      have hx : ix (P ++ (X ++ ([y] ++ S))) (((i + j) / 2 : Nat) : Int) = some (X[(i + j) / 2 - P.length]) := by
        rw [ix_nat, List.getElem?_append_right (by omega), List.getElem?_append_left (by omega), ← List.getElem?_eq_getElem]
      unfold gsymMerge_l129
      simp only [mid_eq (show i + j < 4294967296 by omega)]
      rw [show decide ((i : Int) < (j : Int)) = true from decide_eq_true (by omega)]
      simp only [cond_true, hy, hx, Option.bind_some, List.getElem?_eq_getElem hk]
      rw [wrap_up (by omega)]
      unfold ltc
      cases decide (cf y X[(i + j) / 2 - P.length] < 0) <;> rfl)
    (fun i => by unfold gsymMerge_l129; rw [show decide ((i : Int) < (i : Int)) = false from decide_eq_false (by omega)]; rfl)
    (X.length) P.length (P.length + X.length) (by omega) (Nat.le_refl _) (by omega) (Nat.le_refl _) (fun h => by omega) (fun h => by omega)
  obtain ⟨X1, X2, rfl, hX1⟩ := split_at (Y := X) (k := st - P.length) (by omega)
  have hlx : (X1 ++ X2).length = X1.length + X2.length := List.length_append
  have hmv := gsym_left (cf := cf) (P ++ X1) S y ((st : Nat) : Int) (by simp; omega) X2.length X2 [] rfl (by simp at hlen ⊢; omega)
  simp only [List.nil_append] at hmv
  refine ⟨X1 ++ ([y] ++ X2), ?_, ?_⟩
  · unfold gsymMerge_b
    rw [show ((IntKind.wrap .i64 (((P.length + (X1 ++ X2).length : Nat) : Int) - ((P.length : Nat) : Int))) == 1) = false by rw [wrap64 (by omega) (by omega)]; simp; omega]
    simp only [cond_false]
    rw [show ((IntKind.wrap .i64 (((P.length + (X1 ++ X2).length + 1 : Nat) : Int) - ((P.length + (X1 ++ X2).length : Nat) : Int))) == 1) = true by rw [wrap64 (by omega) (by omega)]; simp; omega]
    simp only [cond_true]
    rw [h1]
    simp only [Option.bind_some]
    rw [show P ++ ((X1 ++ X2) ++ ([y] ++ S)) = (P ++ X1) ++ (X2 ++ (y :: S)) from by simp, show ((P.length + (X1 ++ X2).length : Nat) : Int) = (((P ++ X1).length + X2.length : Nat) : Int) from by simp; omega, hmv]
    simp
  · have c2 : ∀ x ∈ X2, ltc cf y x = true := by
      by_cases h0 : X2.length = 0
      · rw [List.length_eq_zero_iff.1 h0]; intro x hx; cases hx
      · obtain ⟨z, X', rfl⟩ := cons_of (Y := X2) (by omega)
        have hz := h5 (by simp at hlx ⊢; omega)
        rw [show st - P.length = X1.length from by omega] at hz
        rw [show (X1 ++ z :: X')[X1.length]? = some z from by simp] at hz
        simp only [Bool.not_eq_false'] at hz
        intro x hx
        rcases List.mem_cons.1 hx with rfl | hx
        · exact hz
        · exact hs.lt_le hz (hSX.right.head x hx)
    have c1 : ∀ x ∈ X1, ltc cf y x = false := by
      by_cases h0 : X1.length = 0
      · rw [List.length_eq_zero_iff.1 h0]; intro x hx; cases hx
      · obtain ⟨X', z, rfl⟩ := snoc_of (Y := X1) (by omega)
        have hz := h4 (by omega)
        simp only [List.length_append, List.length_cons, List.length_nil] at hX1
        rw [show st - 1 - P.length = X'.length from by omega] at hz
        rw [show ((X' ++ [z]) ++ X2)[X'.length]? = some z from by simp] at hz
        simp only [Bool.not_eq_true'] at hz
        intro x hx
        rcases List.mem_append.1 hx with hx | hx
        · exact hs.trans x z y (hSX.left.last x hx) hz
        · rw [List.mem_singleton.1 hx]; exact hz
    have := merge4 hs (X1 := X1) (X2 := X2) (Y1 := [y]) (Y2 := []) (Z1 := X1 ++ [y]) (Z2 := X2) hSX (List.pairwise_singleton _ _) (fun x hx z hz => by cases hz) (fun u hu z hz => by rw [List.mem_singleton.1 hz]; exact c2 u hu)
      (StS.self (hSX.left.append (List.pairwise_singleton _ _) (fun x hx z hz => by rw [List.mem_singleton.1 hz]; exact c1 x hx))) (by simpa using StS.self hSX.right)
    simpa using this
set_option maxHeartbeats 2000000 in
/-- Two sorted ranges, one behind the other. -/
theorem gsym_eq (hs : Swo (ltc cf)) (n : Nat) : ∀ (P X Y S : List α), X.length + Y.length ≤ n → 0 < X.length → 0 < Y.length → Sorted (ltc cf) X → Sorted (ltc cf) Y → P.length + X.length + Y.length + S.length < 2147483648 →
    ∃ Z, iterF (symF cf) n (P ++ (X ++ (Y ++ S)), ((P.length : Nat) : Int), ((P.length + X.length : Nat) : Int), ((P.length + X.length + Y.length : Nat) : Int)) = some (P ++ (Z ++ S)) ∧ StS (ltc cf) (X ++ Y) Z := by
  induction n with
  | zero => intro P X Y S hn hX; omega
  | succ n ih =>
    intro P X Y S hn hX hY hSX hSY hlen
    rw [iterF_succ]
    show ∃ Z, gsymMerge_b cf (fun a0 a1 a2 a3 => iterF (symF cf) n (a0, a1, a2, a3)) (P ++ (X ++ (Y ++ S))) ((P.length : Nat) : Int) ((P.length + X.length : Nat) : Int) ((P.length + X.length + Y.length : Nat) : Int) = some (P ++ (Z ++ S)) ∧ _
    by_cases hX1 : X.length = 1
    · obtain ⟨x, X', rfl⟩ := cons_of hX
      have : X' = [] := List.length_eq_zero_iff.1 (by simpa using hX1)
      subst this
      exact gsym_one hs _ hY hSY (by simp at hlen ⊢; omega)
    by_cases hY1 : Y.length = 1
    · obtain ⟨y, Y', rfl⟩ := cons_of hY
      have : Y' = [] := List.length_eq_zero_iff.1 (by simpa using hY1)
      subst this
      exact gsym_end hs _ (by omega) hSX (by simp at hlen ⊢; omega)
    -- the general case
    generalize ha : P.length = a at *
    generalize hm : a + X.length = m at *
    generalize hb : m + Y.length = b at *
    have hmid1 : IntKind.wrap .i64 (shr .u64 (IntKind.wrap .u64 (IntKind.wrap .i64 ((a : Int) + (b : Int)))) 1) = (((a + b) / 2 : Nat) : Int) := mid_eq (by omega)
    generalize hmid : (a + b) / 2 = mid at *
    -- where the search goes
    obtain ⟨lo, hi, hlohi, hlo1, hcases⟩ : ∃ lo hi : Nat, (bif (decide ((m : Int) > (mid : Int))) then some ((IntKind.wrap .i64 ((IntKind.wrap .i64 ((mid : Int) + (m : Int))) - (b : Int))), (mid : Int)) else some ((a : Int), (m : Int)) : Option (Int × Int)) = some ((lo : Int), (hi : Int)) ∧ lo ≤ hi ∧
        ((mid < m ∧ lo + b = mid + m ∧ hi = mid) ∨ (m ≤ mid ∧ lo = a ∧ hi = m)) := by
      by_cases hc : mid < m
      · refine ⟨mid + m - b, mid, ?_, by omega, .inl ⟨hc, by omega, rfl⟩⟩
        rw [show decide ((m : Int) > (mid : Int)) = true from decide_eq_true (by omega)]
        simp only [cond_true]
        rw [wrap64 (x := (mid : Int) + (m : Int)) (by omega) (by omega), wrap64 (by omega) (by omega)]
        congr 2; omega
      · refine ⟨a, m, ?_, by omega, .inr ⟨by omega, rfl, rfl⟩⟩
        rw [show decide ((m : Int) > (mid : Int)) = false from decide_eq_false (by omega)]; rfl
    have hxi : ∀ c : Nat, a ≤ c → (hc : c < m) → ix (P ++ (X ++ (Y ++ S))) (c : Int) = some (X[c - a]'(by omega)) := fun c h1 h2 => by
      rw [ix_nat, List.getElem?_append_right (by omega), ha, List.getElem?_append_left (by omega), ← List.getElem?_eq_getElem]
    have hyi : ∀ c : Nat, m ≤ c → (hc : c < b) → ix (P ++ (X ++ (Y ++ S))) (c : Int) = some (Y[c - m]'(by omega)) := fun c h1 h2 => by
      rw [ix_nat, List.getElem?_append_right (by omega), ha, List.getElem?_append_right (by omega), show c - a - X.length = c - m from by omega, List.getElem?_append_left (by omega), ← List.getElem?_eq_getElem]
    obtain ⟨st, h1, h2, h3, h4, h5⟩ := bs_spec (body := gsymMerge_l246 cf (P ++ (X ++ (Y ++ S))) (a : Int) (m : Int) (b : Int)) lo hi (fun c => match X[c - a]?, Y[mid + m - 1 - c - m]? with | some x, some y => !(ltc cf y x) | _, _ => false)
      (fun i j hi' hij hj => by
        have hk1 : (i + j) / 2 - a < X.length := by omega
        have hk2 : mid + m - 1 - (i + j) / 2 - m < Y.length := by omega
        have hx := hxi ((i + j) / 2) (by omega) (by omega)
        have hy := hyi (mid + m - 1 - (i + j) / 2) (by omega) (by omega)
        unfold gsymMerge_l246
        simp only [mid_eq (show i + j < 4294967296 by omega), hmid1]
        rw [show decide ((i : Int) < (j : Int)) = true from decide_eq_true (by omega)]
        rw [show IntKind.wrap .i64 (IntKind.wrap .i64 (IntKind.wrap .i64 ((mid : Int) + (m : Int)) - 1) - (((i + j) / 2 : Nat) : Int)) = ((mid + m - 1 - (i + j) / 2 : Nat) : Int) by
          rw [wrap64 (x := (mid : Int) + (m : Int)) (by omega) (by omega), wrap64 (x := _ - 1) (by omega) (by omega), wrap64 (by omega) (by omega)]; omega]
        simp only [cond_true, hy, hx, Option.bind_some, List.getElem?_eq_getElem hk1, List.getElem?_eq_getElem hk2]
        rw [wrap_up (by omega)]
        unfold ltc
        cases decide (cf Y[mid + m - 1 - (i + j) / 2 - m] X[(i + j) / 2 - a] < 0) <;> rfl)
      (fun i => by unfold gsymMerge_l246; rw [show decide ((i : Int) < (i : Int)) = false from decide_eq_false (by omega)]; rfl)
      (hi - lo) lo hi (Nat.le_refl _) (Nat.le_refl _) hlo1 (Nat.le_refl _) (fun h => by omega) (fun h => by omega)
    obtain ⟨X1, X2, rfl, hx1⟩ := split_at (Y := X) (k := st - a) (by omega)
    obtain ⟨Y1, Y2, rfl, hy1⟩ := split_at (Y := Y) (k := mid - st) (by omega)
    have hlx : (X1 ++ X2).length = X1.length + X2.length := List.length_append
    have hly : (Y1 ++ Y2).length = Y1.length + Y2.length := List.length_append
    -- what the search tells
    have c1 : ∀ x ∈ X1, ∀ y ∈ Y2, ltc cf y x = false := by
      intro x hx y hy
      have hX1p : 0 < X1.length := List.length_pos_of_mem hx
      have hY2p : 0 < Y2.length := List.length_pos_of_mem hy
      obtain ⟨X', z, rfl⟩ := snoc_of hX1p
      obtain ⟨w, Y', rfl⟩ := cons_of hY2p
      have e1 : (X' ++ [z]).length = X'.length + 1 := by simp
      have e2 : (w :: Y').length = Y'.length + 1 := by simp
      have hz := h4 (by omega)
      rw [show st - 1 - a = X'.length from by omega, show mid + m - 1 - (st - 1) - m = Y1.length from by omega] at hz
      rw [show ((X' ++ [z]) ++ X2)[X'.length]? = some z from by simp, show (Y1 ++ w :: Y')[Y1.length]? = some w from by simp] at hz
      simp only [Bool.not_eq_true'] at hz
      have hxz : ltc cf z x = false := by
        rcases List.mem_append.1 hx with hx | hx
        · exact hSX.left.last x hx
        · rw [List.mem_singleton.1 hx]; exact hs.irrefl _
      have hwy : ltc cf y w = false := by
        rcases List.mem_cons.1 hy with rfl | hy
        · exact hs.irrefl _
        · exact hSY.right.head y hy
      exact hs.trans x z y hxz (hs.trans z w y hz hwy)
    have c2 : ∀ x ∈ X2, ∀ y ∈ Y1, ltc cf y x = true := by
      intro x hx y hy
      have hX2p : 0 < X2.length := List.length_pos_of_mem hx
      have hY1p : 0 < Y1.length := List.length_pos_of_mem hy
      obtain ⟨z, X', rfl⟩ := cons_of hX2p
      obtain ⟨Y', w, rfl⟩ := snoc_of hY1p
      have e1 : (Y' ++ [w]).length = Y'.length + 1 := by simp
      have e2 : (z :: X').length = X'.length + 1 := by simp
      have hz := h5 (by omega)
      rw [show st - a = X1.length from by omega, show mid + m - 1 - st - m = Y'.length from by omega] at hz
      rw [show (X1 ++ z :: X')[X1.length]? = some z from by simp, show ((Y' ++ [w]) ++ Y2)[Y'.length]? = some w from by simp] at hz
      simp only [Bool.not_eq_false'] at hz
      have hyw : ltc cf w y = false := by
        rcases List.mem_append.1 hy with hy | hy
        · exact hSY.left.last y hy
        · rw [List.mem_singleton.1 hy]; exact hs.irrefl _
      have hzx : ltc cf x z = false := by
        rcases List.mem_cons.1 hx with rfl | hx
        · exact hs.irrefl _
        · exact hSX.right.head x hx
      exact hs.le_lt hyw (hs.lt_le hz hzx)
    -- the steps
    have hend : IntKind.wrap .i64 (IntKind.wrap .i64 ((mid : Int) + (m : Int)) - (st : Int)) = ((mid + m - st : Nat) : Int) := by
      rw [wrap64 (x := (mid : Int) + (m : Int)) (by omega) (by omega), wrap64 (by omega) (by omega)]; omega
    have hrot : (bif ((decide ((st : Int) < (m : Int))) && (decide ((m : Int) < ((mid + m - st : Nat) : Int)))) then (Option.bind (grotate cf (P ++ ((X1 ++ X2) ++ ((Y1 ++ Y2) ++ S))) (st : Int) (m : Int) ((mid + m - st : Nat) : Int)) fun (y288 : List α) => some y288) else some (P ++ ((X1 ++ X2) ++ ((Y1 ++ Y2) ++ S)))) = some (P ++ (X1 ++ (Y1 ++ (X2 ++ (Y2 ++ S))))) := by
      by_cases hc : 0 < X2.length ∧ 0 < Y1.length
      · rw [show (decide ((st : Int) < (m : Int)) && decide ((m : Int) < ((mid + m - st : Nat) : Int))) = true by rw [Bool.and_eq_true, decide_eq_true_iff, decide_eq_true_iff]; omega]
        rw [grotate_eq (cf := cf) (P := P ++ X1) (X := X2) (Y := Y1) (S := Y2 ++ S) (by simp) hc.1 hc.2 (by simp only [List.length_append]; omega) (by simp; omega) (by simp; omega) (by simp; omega)]
        simp
      · rw [show (decide ((st : Int) < (m : Int)) && decide ((m : Int) < ((mid + m - st : Nat) : Int))) = false by rw [Bool.and_eq_false_iff, decide_eq_false_iff_not, decide_eq_false_iff_not]; omega]
        rcases Nat.eq_zero_or_pos X2.length with h0 | h0
        · rw [List.length_eq_zero_iff.1 h0]; simp
        · rw [List.length_eq_zero_iff.1 (show Y1.length = 0 by omega)]; simp
    obtain ⟨Z1, hr1, hZ1⟩ : ∃ Z1, (bif ((decide ((a : Int) < (st : Int))) && (decide ((st : Int) < (mid : Int)))) then (Option.bind (iterF (symF cf) n (P ++ (X1 ++ (Y1 ++ (X2 ++ (Y2 ++ S)))), (a : Int), (st : Int), (mid : Int))) fun (y311 : List α) => some y311) else some (P ++ (X1 ++ (Y1 ++ (X2 ++ (Y2 ++ S)))))) = some (P ++ (Z1 ++ (X2 ++ (Y2 ++ S)))) ∧ StS (ltc cf) (X1 ++ Y1) Z1 := by
      by_cases hc : 0 < X1.length ∧ 0 < Y1.length
      · obtain ⟨Z1, e, hz⟩ := ih P X1 Y1 (X2 ++ (Y2 ++ S)) (by omega) hc.1 hc.2 hSX.left hSY.left (by simp only [List.length_append]; omega)
        refine ⟨Z1, ?_, hz⟩
        rw [show (decide ((a : Int) < (st : Int)) && decide ((st : Int) < (mid : Int))) = true by rw [Bool.and_eq_true, decide_eq_true_iff, decide_eq_true_iff]; omega]
        rw [ha, show a + X1.length = st from by omega, show st + Y1.length = mid from by omega] at e
        rw [e]; rfl
      · refine ⟨X1 ++ Y1, ?_, StS.self ?_⟩
        · rw [show (decide ((a : Int) < (st : Int)) && decide ((st : Int) < (mid : Int))) = false by rw [Bool.and_eq_false_iff, decide_eq_false_iff_not, decide_eq_false_iff_not]; omega]
          simp
        · rcases Nat.eq_zero_or_pos X1.length with h0 | h0
          · rw [List.length_eq_zero_iff.1 h0]; simpa using hSY.left
          · rw [List.length_eq_zero_iff.1 (show Y1.length = 0 by omega)]; simpa using hSX.left
    have hlZ1 : Z1.length = X1.length + Y1.length := FE.length hs _ (by simp) hZ1.1.symm
    obtain ⟨Z2, hr2, hZ2⟩ : ∃ Z2, (bif ((decide ((mid : Int) < ((mid + m - st : Nat) : Int))) && (decide (((mid + m - st : Nat) : Int) < (b : Int)))) then (Option.bind (iterF (symF cf) n (P ++ (Z1 ++ (X2 ++ (Y2 ++ S))), (mid : Int), ((mid + m - st : Nat) : Int), (b : Int))) fun (y334 : List α) => some y334) else some (P ++ (Z1 ++ (X2 ++ (Y2 ++ S))))) = some (P ++ (Z1 ++ (Z2 ++ S))) ∧ StS (ltc cf) (X2 ++ Y2) Z2 := by
      by_cases hc : 0 < X2.length ∧ 0 < Y2.length
      · obtain ⟨Z2, e, hz⟩ := ih (P ++ Z1) X2 Y2 S (by omega) hc.1 hc.2 hSX.right hSY.right (by simp only [List.length_append]; omega)
        refine ⟨Z2, ?_, hz⟩
        rw [show (decide ((mid : Int) < ((mid + m - st : Nat) : Int)) && decide (((mid + m - st : Nat) : Int) < (b : Int))) = true by rw [Bool.and_eq_true, decide_eq_true_iff, decide_eq_true_iff]; omega]
        rw [List.length_append, show P.length + Z1.length = mid from by omega, show mid + X2.length = mid + m - st from by omega, show mid + m - st + Y2.length = b from by omega, List.append_assoc] at e
        rw [e]; simp
      · refine ⟨X2 ++ Y2, ?_, StS.self ?_⟩
        · rw [show (decide ((mid : Int) < ((mid + m - st : Nat) : Int)) && decide (((mid + m - st : Nat) : Int) < (b : Int))) = false by rw [Bool.and_eq_false_iff, decide_eq_false_iff_not, decide_eq_false_iff_not]; omega]
          simp
        · rcases Nat.eq_zero_or_pos X2.length with h0 | h0
          · rw [List.length_eq_zero_iff.1 h0]; simpa using hSY.right
          · rw [List.length_eq_zero_iff.1 (show Y2.length = 0 by omega)]; simpa using hSX.right
    refine ⟨Z1 ++ Z2, ?_, merge4 hs hSX hSY c1 c2 hZ1 hZ2⟩
    unfold gsymMerge_b
    rw [show ((IntKind.wrap .i64 ((m : Int) - (a : Int))) == 1) = false by rw [wrap64 (by omega) (by omega)]; simp; omega, show ((IntKind.wrap .i64 ((b : Int) - (m : Int))) == 1) = false by rw [wrap64 (by omega) (by omega)]; simp; omega]
    simp only [cond_false, hmid1, hlohi, Option.bind_some, h1, hend, hrot, hr1, hr2]
    simp
end
end Go.GB

/- Stable sorting: the whole of it. -/
set_option linter.unusedVariables false
set_option linter.unusedSimpArgs false
namespace Go.GB
section
variable {α : Type}
/-- Full runs of k elements, each sorted. -/
inductive Full (lt : α → α → Bool) (k : Nat) : List α → Prop
  | nil : Full lt k []
  | snoc {D x : List α} : Full lt k D → x.length = k → Sorted lt x → Full lt k (D ++ x)
/-- Runs of k elements, the last one may be shorter. -/
inductive Runs (lt : α → α → Bool) (k : Nat) : List α → Prop
  | last {x : List α} : x.length ≤ k → Sorted lt x → Runs lt k x
  | cons {x R : List α} : x.length = k → Sorted lt x → Runs lt k R → Runs lt k (x ++ R)
variable {lt : α → α → Bool} {k : Nat}
theorem Full.runs {D : List α} (h : Full lt k D) : ∀ {R : List α}, Runs lt k R → Runs lt k (D ++ R) := by
  induction h with
  | nil => intro R hR; exact hR
  | snoc h1 h2 h3 ih => intro R hR; rw [List.append_assoc]; exact ih (.cons h2 h3 hR)
theorem Runs.sorted {R : List α} (h : Runs lt k R) (hk : R.length ≤ k) (hk0 : 0 < k) : Sorted lt R := by
  cases h with
  | last h1 h2 => exact h2
  | @cons x R h1 h2 h3 =>
    rw [List.length_append] at hk
    have : R = [] := List.length_eq_zero_iff.1 (by omega)
    rw [this, List.append_nil]; exact h2
theorem Runs.two {R : List α} (h : Runs lt k R) (hk : k + k ≤ R.length) : ∃ x y R', R = x ++ (y ++ R') ∧ x.length = k ∧ y.length = k ∧ Sorted lt x ∧ Sorted lt y ∧ Runs lt k R' := by
  cases h with
  | last h1 h2 =>
    have h0 : k = 0 := by omega
    subst h0
    have : R = [] := List.length_eq_zero_iff.1 (by omega)
    subst this
    exact ⟨[], [], [], rfl, rfl, rfl, List.Pairwise.nil, List.Pairwise.nil, .last (by simp) List.Pairwise.nil⟩
  | @cons x R h1 h2 h3 =>
    rw [List.length_append] at hk
    cases h3 with
    | last h4 h5 => exact ⟨x, R, [], by simp, h1, by omega, h2, h5, .last (by simp) List.Pairwise.nil⟩
    | @cons y R' h4 h5 h6 => exact ⟨x, y, R', rfl, h1, h4, h2, h5, h6⟩
theorem Runs.one {R : List α} (h : Runs lt k R) (h1 : k < R.length) (h2 : R.length < k + k) : ∃ x y, R = x ++ y ∧ x.length = k ∧ Sorted lt x ∧ Sorted lt y := by
  cases h with
  | last h3 h4 => omega
  | @cons x R h3 h4 h5 =>
    rw [List.length_append] at h1 h2
    exact ⟨x, R, rfl, h3, h4, h5.sorted (by omega) (by omega)⟩
end
section
variable {α : Type} {cf : α → α → Int}
theorem gsymMerge_eq (hs : Swo (ltc cf)) {l P X Y S : List α} {a m b : Int} (hl : l = P ++ (X ++ (Y ++ S))) (hX : 0 < X.length) (hY : 0 < Y.length) (hSX : Sorted (ltc cf) X) (hSY : Sorted (ltc cf) Y) (hlen : l.length < 2147483648)
    (ha : a = (P.length : Int)) (hm : m = ((P.length + X.length : Nat) : Int)) (hb : b = ((P.length + X.length + Y.length : Nat) : Int)) : ∃ Z, gsymMerge cf l a m b = some (P ++ (Z ++ S)) ∧ StS (ltc cf) (X ++ Y) Z := by
  subst hl ha hm hb
  simp only [List.length_append] at hlen
  exact gsym_eq hs 4294967296 P X Y S (by omega) hX hY hSX hSY (by omega)
/-- Runs of twenty. -/
theorem gstable_first (hs : Swo (ltc cf)) (n : Int) (m : Nat) : ∀ (D0 D R : List α), R.length ≤ m → Full (ltc cf) 20 D → FE (ltc cf) D D0 → n = ((D.length + R.length : Nat) : Int) → D.length + R.length < 2147483648 →
    ∃ D' R', loopO (gstable_l25 cf n) (D ++ R, ((D.length : Nat) : Int), ((D.length + 20 : Nat) : Int)) = some (D' ++ R', ((D'.length : Nat) : Int)) ∧ R'.length < 20 ∧ Full (ltc cf) 20 D' ∧ n = ((D'.length + R'.length : Nat) : Int) ∧ FE (ltc cf) (D' ++ R') (D0 ++ R) := by
  induction m with
  | zero =>
    intro D0 D R hR hF hFE hn hl
    refine ⟨D, R, loopO_done ?_, by omega, hF, hn, hFE.append (FE.refl R)⟩
    unfold gstable_l25
    rw [show decide (((D.length + 20 : Nat) : Int) ≤ n) = false from decide_eq_false (by omega)]; rfl
  | succ m ih =>
    intro D0 D R hR hF hFE hn hl
    by_cases h20 : R.length < 20
    · refine ⟨D, R, loopO_done ?_, h20, hF, hn, hFE.append (FE.refl R)⟩
      unfold gstable_l25
      rw [show decide (((D.length + 20 : Nat) : Int) ≤ n) = false from decide_eq_false (by omega)]; rfl
    · obtain ⟨x, R, rfl, hx⟩ := split_at (Y := R) (k := 20) (by omega)
      have hxl : (x ++ R).length = x.length + R.length := List.length_append
      obtain ⟨Z, h1, h2⟩ := gins_eq (cf := cf) hs (l := D ++ (x ++ R)) (P := D) (X := x) (S := R) (a := ((D.length : Nat) : Int)) (b := ((D.length + 20 : Nat) : Int)) rfl (by rw [List.length_append]; omega) rfl (by rw [hx])
      have hZ : Z.length = 20 := FE.length hs _ hx h2.1.symm
      have hDZ : (D ++ Z).length = D.length + 20 := by rw [List.length_append, hZ]
      obtain ⟨D', R', h3, h4, h5, h6, h7⟩ := ih (D0 ++ x) (D ++ Z) R (by omega) (.snoc hF hZ h2.2) (hFE.append h2.1) (by omega) (by omega)
      refine ⟨D', R', ?_, h4, h5, h6, by simpa using h7⟩
      rw [loopO_step (s' := ((D ++ Z) ++ R, (((D ++ Z).length : Nat) : Int), (((D ++ Z).length + 20 : Nat) : Int))) (by
        unfold gstable_l25
        rw [show decide (((D.length + 20 : Nat) : Int) ≤ n) = true from decide_eq_true (by omega)]
        simp only [cond_true, h1, Option.bind_some]
        rw [wrap64 (by omega) (by omega), List.length_append, hZ, List.append_assoc]
        congr 3), h3]
/-- Runs of k are made runs of twice as many. -/
theorem gstable_merge (hs : Swo (ltc cf)) (n : Int) (k : Nat) (hk : 0 < k) (m : Nat) (s : List α × Int) (hsk : s.2 = (k : Int)) : ∀ (D R : List α), R.length ≤ m → Full (ltc cf) (2 * k) D → Runs (ltc cf) k R → n = ((D.length + R.length : Nat) : Int) → D.length + R.length + 2 * k < 8589934592 → D.length + R.length < 2147483648 →
    ∃ D' R', loopO (gstable_l95 cf n s) (D ++ R, ((D.length : Nat) : Int), ((D.length + 2 * k : Nat) : Int)) = some (D' ++ R', ((D'.length : Nat) : Int)) ∧ R'.length < 2 * k ∧ Full (ltc cf) (2 * k) D' ∧ Runs (ltc cf) k R' ∧ n = ((D'.length + R'.length : Nat) : Int) ∧ FE (ltc cf) (D' ++ R') (D ++ R) := by
  induction m with
  | zero =>
    intro D R hR hF hRr hn hl hl2
    refine ⟨D, R, loopO_done ?_, by omega, hF, hRr, hn, FE.refl _⟩
    unfold gstable_l95
    rw [show decide (((D.length + 2 * k : Nat) : Int) ≤ n) = false from decide_eq_false (by omega)]; rfl
  | succ m ih =>
    intro D R hR hF hRr hn hl hl2
    by_cases h2k : R.length < 2 * k
    · refine ⟨D, R, loopO_done ?_, h2k, hF, hRr, hn, FE.refl _⟩
      unfold gstable_l95
      rw [show decide (((D.length + 2 * k : Nat) : Int) ≤ n) = false from decide_eq_false (by omega)]; rfl
    · obtain ⟨x, y, R, rfl, hx, hy, hSx, hSy, hRr'⟩ := hRr.two (by omega)
      simp only [List.length_append] at hR hn hl hl2
      obtain ⟨Z, h1, h2⟩ := gsymMerge_eq (cf := cf) hs (l := D ++ (x ++ (y ++ R))) (P := D) (X := x) (Y := y) (S := R) (a := ((D.length : Nat) : Int)) (m := IntKind.wrap .i64 (((D.length : Nat) : Int) + s.2)) (b := ((D.length + 2 * k : Nat) : Int)) rfl (by omega) (by omega) hSx hSy (by simp only [List.length_append]; omega) rfl
        (by rw [hsk, wrap64 (by omega) (by omega)]; omega) (by omega)
      have hZ : Z.length = 2 * k := FE.length hs _ (by rw [List.length_append]; omega) h2.1.symm
      have hDZ : (D ++ Z).length = D.length + 2 * k := by rw [List.length_append, hZ]
      obtain ⟨D', R', h3, h4, h5, h6, h7, h8⟩ := ih (D ++ Z) R (by omega) (.snoc hF hZ h2.2) hRr' (by omega) (by omega) (by omega)
      refine ⟨D', R', ?_, h4, h5, h6, h7, h8.trans ?_⟩
      · rw [loopO_step (s' := ((D ++ Z) ++ R, (((D ++ Z).length : Nat) : Int), (((D ++ Z).length + 2 * k : Nat) : Int))) (by
          unfold gstable_l95
          rw [show decide (((D.length + 2 * k : Nat) : Int) ≤ n) = true from decide_eq_true (by omega)]
          simp only [cond_true, h1, Option.bind_some]
          rw [hsk, wrap64 (x := 2 * (k : Int)) (by omega) (by omega), wrap64 (by omega) (by omega), List.length_append, hZ, List.append_assoc]
          congr 3), h3]
      · have := FE.mid (P := D) (S := R) h2.1
        simpa using this
theorem gstable_rounds (hs : Swo (ltc cf)) (l0 : List α) (m : Nat) : ∀ (l : List α) (k : Nat), 0 < k → l.length - k ≤ m → Runs (ltc cf) k l → FE (ltc cf) l l0 → l.length < 2147483648 →
    ∃ z, loopO (gstable_l68 cf ((l.length : Nat) : Int)) (l, ((k : Nat) : Int)) = some z ∧ StS (ltc cf) l0 z := by
  induction m with
  | zero =>
    intro l k hk hm hR hFE hl
    refine ⟨l, loopO_done ?_, hFE, hR.sorted (by omega) hk⟩
    unfold gstable_l68
    rw [show decide (((k : Nat) : Int) < ((l.length : Nat) : Int)) = false from decide_eq_false (by omega)]; rfl
  | succ m ih =>
    intro l k hk hm hR hFE hl
    by_cases hkl : l.length ≤ k
    · refine ⟨l, loopO_done ?_, hFE, hR.sorted hkl hk⟩
      unfold gstable_l68
      rw [show decide (((k : Nat) : Int) < ((l.length : Nat) : Int)) = false from decide_eq_false (by omega)]; rfl
    · obtain ⟨D, R, h1, h2, h3, h4, h5, h6⟩ := gstable_merge (cf := cf) hs ((l.length : Nat) : Int) k hk l.length (l, ((k : Nat) : Int)) rfl [] l (Nat.le_refl _) .nil hR (by simp) (by simp; omega) (by simpa using hl)
      simp only [List.nil_append, List.length_nil, Nat.zero_add] at h1 h6
      rw [show ((0 : Nat) : Int) = 0 from rfl] at h1
      have hlen : (D ++ R).length = l.length := by rw [List.length_append]; omega
      obtain ⟨w, hw1, hw2, hw3⟩ : ∃ w, (bif (decide ((IntKind.wrap .i64 (((D.length : Nat) : Int) + ((k : Nat) : Int))) < ((l.length : Nat) : Int))) then (Option.bind (gsymMerge cf (D ++ R) ((D.length : Nat) : Int) (IntKind.wrap .i64 (((D.length : Nat) : Int) + ((k : Nat) : Int))) ((l.length : Nat) : Int)) fun (y115 : List α) => some y115) else some (D ++ R)) = some w ∧ Runs (ltc cf) (2 * k) w ∧ FE (ltc cf) w (D ++ R) := by
        by_cases hRk : k < R.length
        · obtain ⟨x, y, rfl, hx, hSx, hSy⟩ := h4.one hRk (by omega)
          simp only [List.length_append] at h5 hRk h2
          obtain ⟨Z, g1, g2⟩ := gsymMerge_eq (cf := cf) hs (l := D ++ (x ++ y)) (P := D) (X := x) (Y := y) (S := []) (a := ((D.length : Nat) : Int)) (m := IntKind.wrap .i64 (((D.length : Nat) : Int) + ((k : Nat) : Int))) (b := ((l.length : Nat) : Int)) (by simp) (by omega) (by omega) hSx hSy (by simp only [List.length_append]; omega) rfl
            (by rw [wrap64 (by omega) (by omega)]; omega) (by omega)
          refine ⟨D ++ Z, ?_, ?_, ?_⟩
          · rw [show decide ((IntKind.wrap .i64 (((D.length : Nat) : Int) + ((k : Nat) : Int))) < ((l.length : Nat) : Int)) = true from decide_eq_true (by rw [wrap64 (by omega) (by omega)]; omega)]
            rw [g1]; simp
          · refine h3.runs (.last ?_ g2.2)
            rw [FE.length hs _ rfl g2.1.symm, List.length_append]; omega
          · exact (FE.refl D).append g2.1
        · refine ⟨D ++ R, ?_, h3.runs (.last (by omega) (h4.sorted (by omega) hk)), FE.refl _⟩
          rw [show decide ((IntKind.wrap .i64 (((D.length : Nat) : Int) + ((k : Nat) : Int))) < ((l.length : Nat) : Int)) = false from decide_eq_false (by rw [wrap64 (by omega) (by omega)]; omega)]
          rfl
      have hwl : w.length = l.length := by rw [← hlen]; exact FE.length hs _ rfl hw3.symm
      obtain ⟨z, hz, hz2⟩ := ih w (2 * k) (by omega) (by omega) hw2 (hw3.trans (h6.trans hFE)) (by omega)
      refine ⟨z, ?_, hz2⟩
      rw [hwl] at hz
      rw [loopO_step (s' := (w, ((2 * k : Nat) : Int))) (by
        unfold gstable_l68
        rw [show decide (((k : Nat) : Int) < ((l.length : Nat) : Int)) = true from decide_eq_true (by omega)]
        simp only [cond_true]
        rw [wrap64 (x := 2 * ((k : Nat) : Int)) (by omega) (by omega), show (2 * ((k : Nat) : Int)) = ((2 * k : Nat) : Int) from by omega, h1]
        simp only [Option.bind_some, hw1]
        rw [wrap64 (by omega) (by omega)]
        congr 3; omega), hz]
/-- The library's stable sort is a stable sort. -/
theorem gSortStable_eq (hs : Swo (ltc cf)) (l : List α) (hl : l.length < 2147483648) : ∃ z, gSortStable cf l = some z ∧ StS (ltc cf) l z := by
  obtain ⟨D, R, h1, h2, h3, h4, h5⟩ := gstable_first (cf := cf) hs ((l.length : Nat) : Int) l.length [] [] l (Nat.le_refl _) .nil (FE.refl _) (by simp) (by simpa using hl)
  simp only [List.nil_append, List.length_nil, Nat.zero_add] at h1 h5
  obtain ⟨Z, g1, g2⟩ := gins_eq (cf := cf) hs (l := D ++ R) (P := D) (X := R) (S := []) (a := ((D.length : Nat) : Int)) (b := ((l.length : Nat) : Int)) (by simp) (by rw [List.length_append]; omega) rfl h4
  have hZ : Z.length = R.length := FE.length hs _ rfl g2.1.symm
  obtain ⟨z, e1, e2⟩ := gstable_rounds (cf := cf) hs l (D ++ Z).length (D ++ Z) 20 (by omega) (by omega) (h3.runs (.last (by omega) g2.2)) (((FE.refl D).append g2.1).trans h5) (by rw [List.length_append]; omega)
  refine ⟨z, ?_, e2⟩
  unfold gSortStable gstable
  have h0 : loopO (gstable_l25 cf ((l.length : Nat) : Int)) (l, 0, 20) = some (D ++ R, ((D.length : Nat) : Int)) := h1
  rw [h0]
  simp only [Option.bind_some, g1, List.append_nil]
  rw [show ((l.length : Nat) : Int) = (((D ++ Z).length : Nat) : Int) by rw [List.length_append, hZ]; exact h4]
  have e1' : loopO (gstable_l68 cf (((D ++ Z).length : Nat) : Int)) (D ++ Z, 20) = some z := e1
  rw [e1']; rfl
end
end Go.GB

/- Plain laws of doubles: their order; multiples of a place are summed exactly. -/
set_option linter.unusedVariables false
set_option linter.unusedSimpArgs false
set_option maxRecDepth 100000
namespace Go.Proofs.YtkjkkimnjpodiaaGreatDoor
open Go.GB Ieee
theorem signed_mul (s : Bool) (m k : Nat) : signed s m k = (bif s then -(m : Int) else m) * (2 ^ k : Nat) := by
  unfold signed
  rw [Nat.shiftLeft_eq]
  cases s with
  | true => simp only [if_true, cond_true, Int.natCast_mul, Int.neg_mul]
  | false => simp only [Bool.false_eq_true, if_false, cond_false, Int.natCast_mul]
theorem signed_add (s : Bool) (m k d : Nat) : signed s m (k + d) = signed s m k * (2 ^ d : Nat) := by
  rw [signed_mul, signed_mul, Nat.pow_add, Int.natCast_mul, Int.mul_assoc]
theorem icmp (a b : Int) : compare a b = if a < b then Ordering.lt else if a = b then .eq else .gt := rfl
theorem icmp_mul {a b : Int} {c : Nat} (hc : 0 < c) : compare (a * c) (b * c) = compare a b := by
  have hc' : (0 : Int) < c := by omega
  rw [icmp, icmp]
  by_cases h : a < b
  · rw [if_pos h, if_pos (Int.mul_lt_mul_of_pos_right h hc')]
  · have h1 : ¬ a * c < b * c := fun k => h (Int.lt_of_mul_lt_mul_right k (by omega))
    rw [if_neg h, if_neg h1]
    by_cases e : a = b
    · rw [e, if_pos rfl, if_pos rfl]
    · rw [if_neg e, if_neg fun k => e (Int.eq_of_mul_eq_mul_right (by omega) k)]
theorem order_at {s t : Bool} {m n : Nat} {i j B : Int} (hi : B ≤ i) (hj : B ≤ j) : Datum.order (.number s m i) (.number t n j) = some (compare (signed s m (i - B).toNat) (signed t n (j - B).toNat)) := by
  simp only [Datum.order]
  have e1 : (i - B).toNat = (i - min i j).toNat + (min i j - B).toNat := by omega
  have e2 : (j - B).toNat = (j - min i j).toNat + (min i j - B).toNat := by omega
  rw [e1, e2, signed_add, signed_add, icmp_mul (Nat.two_pow_pos _)]
theorem order_self {x : Datum} (h : x.isNaN = false) : Datum.order x x = some .eq := by
  cases x with
  | nan _ _ => cases h
  | infinity s => cases s <;> rfl
  | number s m i =>
    simp only [Datum.order]
    rw [icmp, if_neg (by omega), if_pos rfl]
theorem order_nanl {x : Datum} (h : x.isNaN = true) (y : Datum) : Datum.order x y = none := by
  cases x with
  | nan _ _ => cases y <;> rfl
  | infinity s => cases h
  | number s m i => cases h
/-- Not a number. -/
def nanE (p : Fl) : Bool := fcmp .neq p p
theorem forder_nanl {p : Fl} (h : nanE p = true) (q : Fl) : forder p q = none := by
  cases p with
  | none => cases q <;> rfl
  | some x =>
    cases q with
    | none => rfl
    | some y =>
      cases hn : (double.read x).isNaN with
      | true => exact order_nanl hn _
      | false =>
        have : forder (some x) (some x) = some .eq := order_self hn
        unfold nanE fcmp at h
        simp only [this] at h
        cases h
/-! ### Multiples of a place -/
theorem log2_shift {m : Nat} (hm : m ≠ 0) (k : Nat) : (m * 2 ^ k).log2 = m.log2 + k := by
  have h1 := Nat.log2_self_le hm
  have h2 := @Nat.lt_log2_self m
  rw [Nat.log2_eq_iff (by have := Nat.two_pow_pos k; intro h; rcases Nat.mul_eq_zero.1 h with h | h <;> omega)]
  constructor
  · rw [Nat.pow_add]; exact Nat.mul_le_mul_right _ h1
  · rw [show m.log2 + k + 1 = (m.log2 + 1) + k by omega, Nat.pow_add]; exact Nat.mul_lt_mul_of_pos_right h2 (Nat.two_pow_pos k)
/-- The rung of a multiple of a place. -/
def rungE (m : Nat) (u : Int) : Nat := (u + m.log2 - 52 + 1074).toNat * 2 ^ 52 + m * 2 ^ (52 - m.log2)
theorem cut_none (s : Bool) (n : Nat) : Toward.even.cut s n 0 = n := by
  unfold Toward.cut
  simp only [Nat.zero_min, Nat.shiftLeft_zero, Nat.div_one, Nat.mod_one]
  rfl
theorem cut_whole {s : Bool} {n q d : Nat} (h : n = q * 2 ^ d) (hn : n ≠ 0) : Toward.even.cut s n d = q := by
  have hq : q ≠ 0 := fun e => hn (by rw [h, e, Nat.zero_mul])
  have hl : d ≤ n.log2 := by rw [h, log2_shift hq]; omega
  unfold Toward.cut
  have hp := Nat.two_pow_pos d
  simp only [Nat.min_eq_left (show d ≤ n.log2 + 2 by omega), Nat.shiftLeft_eq, Nat.one_mul]
  rw [h, Nat.mul_div_cancel _ hp, Nat.mul_mod_left]
  rw [show decide (2 ^ d < 2 * 0) = false from decide_eq_false (by omega), show ((2 ^ d : Nat) == 2 * 0) = false from beq_eq_false_iff_ne.2 (by omega)]
  rfl
theorem near_exact (s : Bool) {m : Nat} (hm : m ≠ 0) (hl : m.log2 ≤ 52) {u : Int} (h1 : -1000 ≤ u) (h2 : u ≤ 900) (k : Nat) : double.nearest s (m * 2 ^ k) (u - k) = double.word s (rungE m u) := by
  have hp := Nat.two_pow_pos k
  have hmk : m * 2 ^ k ≠ 0 := fun h => by rcases Nat.mul_eq_zero.1 h with h | h <;> omega
  unfold Format.nearest
  rw [if_neg hmk, log2_shift hm]
  have hlp : double.leastPlace = -1074 := by decide
  have hfb : double.fractionBits = 52 := rfl
  have hbi : double.binade = 2 ^ 52 := rfl
  have hir : double.infRung = 2047 * 2 ^ 52 := by decide
  rw [hlp, hfb, hbi, hir]
  have hlast : max (u - (k : Int) + ((m.log2 + k : Nat) : Int) - ((52 : Nat) : Int)) (-1074) = u + m.log2 - 52 := by omega
  simp only [hlast]
  have hm1 := Nat.log2_self_le hm
  have hm2 := @Nat.lt_log2_self m
  have hkept : Toward.even.cut s ((m * 2 ^ k) <<< (u - (k : Int) - (u + m.log2 - 52)).toNat) (u + m.log2 - 52 - (u - (k : Int))).toNat = m * 2 ^ (52 - m.log2) := by
    by_cases hk : k ≤ 52 - m.log2
    · rw [show (u + (m.log2 : Int) - 52 - (u - (k : Int))).toNat = 0 by omega, cut_none, Nat.shiftLeft_eq, Nat.mul_assoc, ← Nat.pow_add]
      congr 2
      omega
    · rw [show (u - (k : Int) - (u + (m.log2 : Int) - 52)).toNat = 0 by omega, Nat.shiftLeft_zero]
      refine cut_whole ?_ hmk
      rw [Nat.mul_assoc, ← Nat.pow_add]
      congr 2
      omega
  rw [hkept]
  have hb : m * 2 ^ (52 - m.log2) < 2 ^ 53 := by
    have : m * 2 ^ (52 - m.log2) < 2 ^ (m.log2 + 1) * 2 ^ (52 - m.log2) := Nat.mul_lt_mul_of_pos_right hm2 (Nat.two_pow_pos _)
    rw [← Nat.pow_add, show m.log2 + 1 + (52 - m.log2) = 53 by omega] at this
    exact this
  unfold rungE
  rw [show u + (m.log2 : Int) - 52 - -1074 = u + m.log2 - 52 + 1074 by omega, Nat.min_eq_left]
  have : (u + (m.log2 : Int) - 52 + 1074).toNat ≤ 2045 := by omega
  generalize (u + (m.log2 : Int) - 52 + 1074).toNat = q at *
  generalize m * 2 ^ (52 - m.log2) = r at *
  omega
theorem read_word (s : Bool) {q r : Nat} (hq : q ≤ 2045) (hr : 2 ^ 52 ≤ r) (hr2 : r < 2 ^ 53) : double.read (double.word s (q * 2 ^ 52 + r)) = .number s r (q - 1074) := by
  have hsw : double.signWeight = 2 ^ 63 := by decide
  have hlp : double.leastPlace = -1074 := by decide
  have hbi : double.binade = 2 ^ 52 := rfl
  have hir : double.infRung = 2047 * 2 ^ 52 := by decide
  unfold Format.read Format.word
  rw [hsw, hlp, hbi, hir]
  have hw : (if s then 2 ^ 63 + (q * 2 ^ 52 + r) else q * 2 ^ 52 + r) % 2 ^ 63 = q * 2 ^ 52 + r := by cases s <;> simp <;> omega
  have hn : ((if s then 2 ^ 63 + (q * 2 ^ 52 + r) else q * 2 ^ 52 + r) / 2 ^ 63 % 2 == 1) = s := by
    cases s with
    | true => simp only [if_true]; rw [show (2 ^ 63 + (q * 2 ^ 52 + r)) / 2 ^ 63 % 2 = 1 by omega]; rfl
    | false => simp only [Bool.false_eq_true, if_false]; rw [show (q * 2 ^ 52 + r) / 2 ^ 63 % 2 = 0 by omega]; rfl
  simp only [hw, hn]
  rw [if_neg (by omega), if_pos (by omega)]
  rw [show 2 ^ 52 + (q * 2 ^ 52 + r) % 2 ^ 52 = r by omega, show (q * 2 ^ 52 + r) / 2 ^ 52 - 1 = q by omega]
  rw [show (-1074 : Int) + (q : Int) = q - 1074 by omega]
/-- A datum stands for so many of a place. -/
def ValU (u : Int) (d : Datum) (z : Int) : Prop := ∃ m i, d = .number (decide (z < 0)) m i ∧ i ≤ u ∧ ∀ b ≤ i, signed (decide (z < 0)) m (i - b).toNat = z * (2 ^ (u - b).toNat : Nat)
/-- The word of so many of a place. -/
def wordU (u : Int) (z : Int) : Nat := double.write (.number (decide (z < 0)) z.natAbs u)
theorem log2_le {m : Nat} (hm : m ≠ 0) (h : m < 2 ^ 53) : m.log2 ≤ 52 := by
  have h1 := Nat.log2_self_le hm
  by_cases h2 : m.log2 ≤ 52
  · exact h2
  · have : 2 ^ 53 ≤ 2 ^ m.log2 := Nat.pow_le_pow_right (by omega) (by omega)
    omega
theorem wordU_eq {u z : Int} (hz : z ≠ 0) (hb : z.natAbs < 2 ^ 53) (h1 : -1000 ≤ u) (h2 : u ≤ 900) : wordU u z = double.word (decide (z < 0)) (rungE z.natAbs u) := by
  have := near_exact (decide (z < 0)) (m := z.natAbs) (by omega) (log2_le (by omega) hb) h1 h2 0
  rw [Nat.pow_zero, Nat.mul_one, show u - ((0 : Nat) : Int) = u by omega] at this
  exact this
theorem sgn_mul {z : Int} (k : Nat) : (bif decide (z < 0) then -((z.natAbs * k : Nat) : Int) else ((z.natAbs * k : Nat) : Int)) = z * k := by
  rw [Int.natCast_mul]
  by_cases h : z < 0
  · rw [decide_eq_true h]; simp only [cond_true]; rw [← Int.neg_mul]; congr 1; omega
  · rw [decide_eq_false h]; simp only [cond_false]; congr 1; omega
theorem wordU_val {u z : Int} (hb : z.natAbs < 2 ^ 53) (h1 : -1000 ≤ u) (h2 : u ≤ 900) : ValU u (double.read (wordU u z)) z := by
  by_cases hz : z = 0
  · subst hz
    refine ⟨0, -1074, ?_, by omega, fun b hb => ?_⟩
    · show double.read (double.nearest (decide ((0 : Int) < 0)) (Int.natAbs 0) u) = _
      unfold Format.nearest
      rw [if_pos (show Int.natAbs 0 = 0 from rfl)]
      decide
    · rw [signed_mul]; simp
  · have hl := log2_le (m := z.natAbs) (by omega) hb
    have hm1 := Nat.log2_self_le (n := z.natAbs) (by omega)
    have hm2 := @Nat.lt_log2_self z.natAbs
    rw [wordU_eq hz hb h1 h2]
    unfold rungE
    have hb1 : z.natAbs * 2 ^ (52 - z.natAbs.log2) < 2 ^ 53 := by
      have : z.natAbs * 2 ^ (52 - z.natAbs.log2) < 2 ^ (z.natAbs.log2 + 1) * 2 ^ (52 - z.natAbs.log2) := Nat.mul_lt_mul_of_pos_right hm2 (Nat.two_pow_pos _)
      rw [← Nat.pow_add, show z.natAbs.log2 + 1 + (52 - z.natAbs.log2) = 53 by omega] at this
      exact this
    have hb2 : 2 ^ 52 ≤ z.natAbs * 2 ^ (52 - z.natAbs.log2) := by
      have : 2 ^ z.natAbs.log2 * 2 ^ (52 - z.natAbs.log2) ≤ z.natAbs * 2 ^ (52 - z.natAbs.log2) := Nat.mul_le_mul_right _ hm1
      rw [← Nat.pow_add, show z.natAbs.log2 + (52 - z.natAbs.log2) = 52 by omega] at this
      exact this
    rw [read_word _ (by omega) hb2 hb1]
    refine ⟨_, _, rfl, by omega, fun b hb => ?_⟩
    rw [signed_mul, sgn_mul, Int.mul_assoc, ← Int.natCast_mul, ← Nat.pow_add]
    congr 3
    omega
end Go.Proofs.YtkjkkimnjpodiaaGreatDoor

/- Plain laws: least and greatest of values; sums of multiples of a place. -/
set_option linter.unusedVariables false
set_option linter.unusedSimpArgs false
set_option maxRecDepth 100000
namespace Go.Proofs.YtkjkkimnjpodiaaGreatDoor
open Go.GB Go.Lib
theorem fold_loop {α β ρ : Type} {body : β × Int → Option ((β × Int) ⊕ ρ)} (l : List α) (f : β → α → β) (g : β → ρ) (acc0 : β)
    (h : ∀ (acc : β) (i : Nat) (hi : i < l.length), body (acc, (i : Int)) = some (.inl (f acc l[i], ((i + 1 : Nat) : Int)))) (he : ∀ acc, body (acc, (l.length : Int)) = some (.inr (g acc))) :
    loopO body (acc0, 0) = some (g (l.foldl f acc0)) := by
  have := up_inv (body := body) (fun k => ((l.take k).foldl f acc0, (k : Int))) (n := l.length) (r := g (l.foldl f acc0)) (fun k hk => by
    rw [h _ k hk, List.take_add_one, List.getElem?_eq_getElem hk, List.foldl_append]; rfl)
    (by rw [List.take_length]; exact he _) 0 (by omega)
  rw [List.take_zero] at this
  exact this
/-! ### The least and the greatest -/
def mostE (c : BinOp) (l : List Fl) (m : Fl) : Fl := l.foldl (fun m x => bif fcmp c x m || nanE m then x else m) m
theorem min_eq {x : Fl} {l : List Fl} (hl : (x :: l).length < 2147483648) (p : Fl) : aggr_values_min (x :: l) p = some (mostE .lss (x :: l) x) := by
  unfold aggr_values_min
  rw [show ix (x :: l) (0 : Int) = some x from rfl]
  simp only [Option.bind_some]
  rw [fold_loop (x :: l) (fun m x => bif fcmp .lss x m || nanE m then x else m) id x (fun acc i hi => ?_) (fun acc => ?_)]
  · rfl
  · unfold aggr_values_min_l32
    rw [show decide ((((acc, (i : Int)) : Fl × Int)).2 < ((x :: l).length : Int)) = true from decide_eq_true (by show (i : Int) < _; omega)]
    simp only [cond_true, ix_nat, List.getElem?_eq_getElem hi, Option.bind_some, wrap_up (show i < 4294967296 by omega)]
    unfold nanE math_IsNaN
    cases fcmp .lss (x :: l)[i] acc <;> cases fcmp .neq acc acc <;> rfl
  · unfold aggr_values_min_l32
    rw [show decide ((((acc, ((x :: l).length : Int)) : Fl × Int)).2 < ((x :: l).length : Int)) = false from decide_eq_false (by show ¬ ((x :: l).length : Int) < _; omega)]; rfl
theorem max_eq {x : Fl} {l : List Fl} (hl : (x :: l).length < 2147483648) (p : Fl) : aggr_values_max (x :: l) p = some (mostE .gtr (x :: l) x) := by
  unfold aggr_values_max
  rw [show ix (x :: l) (0 : Int) = some x from rfl]
  simp only [Option.bind_some]
  rw [fold_loop (x :: l) (fun m x => bif fcmp .gtr x m || nanE m then x else m) id x (fun acc i hi => ?_) (fun acc => ?_)]
  · rfl
  · unfold aggr_values_max_l32
    rw [show decide ((((acc, (i : Int)) : Fl × Int)).2 < ((x :: l).length : Int)) = true from decide_eq_true (by show (i : Int) < _; omega)]
    simp only [cond_true, ix_nat, List.getElem?_eq_getElem hi, Option.bind_some, wrap_up (show i < 4294967296 by omega)]
    unfold nanE math_IsNaN
    cases fcmp .gtr (x :: l)[i] acc <;> cases fcmp .neq acc acc <;> rfl
  · unfold aggr_values_max_l32
    rw [show decide ((((acc, ((x :: l).length : Int)) : Fl × Int)).2 < ((x :: l).length : Int)) = false from decide_eq_false (by show ¬ ((x :: l).length : Int) < _; omega)]; rfl
/-! ### Sums -/
def sumE : List Fl → Option Fl
  | [] => none
  | x :: l => some (l.foldl (farith .add) x)
theorem lx_tail {α : Type} (x : α) (l : List α) : lx (x :: l) 1 ((x :: l).length : Int) = some l := by
  unfold lx
  rw [if_pos ⟨by omega, by simp; omega, by omega⟩]
  simp
theorem sum_eq (l : List Fl) (hl : l.length < 2147483648) (p : Fl) : aggr_values_sum l p = sumE l := by
  unfold aggr_values_sum
  cases l with
  | nil => rfl
  | cons x l =>
    rw [show ix (x :: l) (0 : Int) = some x from rfl, lx_tail]
    simp only [Option.bind_some]
    rw [fold_loop l (farith .add) id x (fun acc i hi => ?_) (fun acc => ?_)]
    · rfl
    · unfold aggr_values_sum_l37
      rw [show decide ((((acc, (i : Int)) : Fl × Int)).2 < (l.length : Int)) = true from decide_eq_true (by show (i : Int) < _; omega)]
      simp only [cond_true, ix_nat, List.getElem?_eq_getElem hi, Option.bind_some, wrap_up (show i < 4294967296 by simp at hl; omega)]
    · unfold aggr_values_sum_l37
      rw [show decide ((((acc, (l.length : Int)) : Fl × Int)).2 < (l.length : Int)) = false from decide_eq_false (by show ¬ (l.length : Int) < _; omega)]; rfl
theorem num_self {p : Fl} (h : nanE p = false) : fcmp .neq p p = false ∧ fcmp .eql p p = true := by
  refine ⟨h, ?_⟩
  unfold nanE at h
  unfold fcmp at h ⊢
  simp only at h ⊢
  cases hb : (forder p p == some Ordering.eq) with
  | true => rfl
  | false => unfold bne at h; rw [hb] at h; cases h
theorem told_num {p : Fl} (h : nanE p = false) : aggr_told p = p := by
  unfold aggr_told math_IsNaN
  rw [show fcmp .neq p p = false from h]; rfl
theorem told_nan {p : Fl} (h : nanE p = true) : nanE (aggr_told p) = true := by
  unfold aggr_told math_IsNaN
  rw [show fcmp .neq p p = true from h]
  simp only [cond_true]
  kernel_rfl
end Go.Proofs.YtkjkkimnjpodiaaGreatDoor

/- Plain laws: the library's stable sort of known floats is the stable sort of their words. -/
set_option linter.unusedVariables false
set_option linter.unusedSimpArgs false
set_option maxRecDepth 100000
namespace Go.Proofs.YtkjkkimnjpodiaaGreatDoor
open Go.GB Go.Lib
/-- Words of doubles. -/
abbrev W64 := {x : Nat // x < 18446744073709551616}
def FL (l : List W64) : List Fl := l.map fun x => some x.1
noncomputable def cN (x y : W64) : Int := (aggr_ahead (some x.1) (some y.1)).getD 0
theorem ahead_some (x y : W64) : aggr_ahead (some x.1) (some y.1) = some (cN x y) := by
  unfold cN aggr_ahead
  cases (cmp_Compare (some x.1) (some y.1) != 0) <;> rfl
theorem ix_FL (l : List W64) (i : Int) : ix (FL l) i = (ix l i).map fun x => some x.1 := by
  unfold ix FL
  split
  · rw [List.getElem?_map]
  · rfl
theorem lset_FL (l : List W64) (i : Int) (x : W64) : lset (FL l) i (some x.1) = FL (lset l i x) := by unfold lset FL; rw [List.map_set]
theorem len_FL (l : List W64) : (FL l).length = l.length := List.length_map _
theorem loop_map {σ σ' ρ ρ' : Type} {b : σ → Option (σ ⊕ ρ)} {bp : σ' → Option (σ' ⊕ ρ')} {φ : σ → σ'} {ψ : ρ → ρ'} (h : ∀ s, bp (φ s) = (b s).map (Sum.map φ ψ)) (s : σ) : loopO bp (φ s) = (loopO b s).map ψ := by
  have up : ∀ {s r}, LoopR b s r → LoopR bp (φ s) (ψ r) := fun {s r} hl => by
    induction hl with
    | done h1 => exact .done (by rw [h, h1]; rfl)
    | step h1 _ ih => exact .step (by rw [h, h1]; rfl) ih
  have down : ∀ {s' r'}, LoopR bp s' r' → ∀ s, s' = φ s → ∃ r, LoopR b s r := fun {s' r'} hl => by
    induction hl with
    | done h1 =>
      rintro s rfl
      rw [h] at h1
      cases hb : b s with
      | none => rw [hb] at h1; cases h1
      | some o =>
        rw [hb] at h1
        cases o with
        | inl z => cases h1
        | inr z => exact ⟨z, .done hb⟩
    | step h1 _ ih =>
      rintro s rfl
      rw [h] at h1
      cases hb : b s with
      | none => rw [hb] at h1; cases h1
      | some o =>
        rw [hb] at h1
        cases o with
        | inl z =>
          simp only [Option.map_some, Sum.map_inl, Option.some.injEq, Sum.inl.injEq] at h1
          obtain ⟨r, hr⟩ := ih z h1.symm
          exact ⟨r, .step hb hr⟩
        | inr z => cases h1
  cases hl : loopO b s with
  | some r => exact loopO_of (up (loopR_of hl))
  | none =>
    cases hp : loopO bp (φ s) with
    | none => rfl
    | some r' =>
      obtain ⟨r, hr⟩ := down (loopR_of hp) s rfl
      rw [loopO_of hr] at hl; cases hl
theorem bind_cond {α β : Type} (c : Bool) (x y : Option α) (k : α → Option β) : Option.bind (bif c then x else y) k = bif c then Option.bind x k else Option.bind y k := by cases c <;> rfl
theorem map_cond {α β : Type} (c : Bool) (x y : Option α) (k : α → β) : Option.map k (bif c then x else y) = bif c then Option.map k x else Option.map k y := by cases c <;> rfl
abbrev P1 (s : List W64 × Int) : List Fl × Int := (FL s.1, s.2)
abbrev P2 (s : List W64 × Int × Int) : List Fl × Int × Int := (FL s.1, s.2)
theorem swap_l (a1 a2 a3 : Int) (s : List W64 × Int) : slices_swapRangeCmpFunc_l25 a1 a2 a3 (P1 s) = (gswapRange_l25 cN a1 a2 a3 s).map (Sum.map P1 FL) := by
  unfold slices_swapRangeCmpFunc_l25 gswapRange_l25
  simp only [P1, P2, ix_FL, lset_FL, len_FL, ahead_some, bind_cond, map_cond, Option.bind_map, Option.map_bind, Option.bind_some, Option.map_some, Option.map_map, Function.comp_def, Sum.map_inl, Sum.map_inr, Option.bind_assoc, id]
theorem swap_F (l : List W64) (a1 a2 a3 : Int) : slices_swapRangeCmpFunc (FL l) a1 a2 a3 = (gswapRange cN l a1 a2 a3).map FL := by
  unfold slices_swapRangeCmpFunc gswapRange
  rw [show ((FL l, (0 : Int)) : List Fl × Int) = P1 (l, 0) from rfl, loop_map (swap_l a1 a2 a3)]
  simp only [P1, P2, ix_FL, lset_FL, len_FL, ahead_some, bind_cond, map_cond, Option.bind_map, Option.map_bind, Option.bind_some, Option.map_some, Option.map_map, Function.comp_def, Sum.map_inl, Sum.map_inr, Option.bind_assoc, id]
theorem rot_l (a2 : Int) (s : List W64 × Int × Int) : slices_rotateCmpFunc_l25 a2 (P2 s) = (grotate_l25 cN a2 s).map (Sum.map P2 P1) := by
  unfold slices_rotateCmpFunc_l25 grotate_l25
  simp only [swap_F]
  simp only [P1, P2, ix_FL, lset_FL, len_FL, ahead_some, bind_cond, map_cond, Option.bind_map, Option.map_bind, Option.bind_some, Option.map_some, Option.map_map, Function.comp_def, Sum.map_inl, Sum.map_inr, Option.bind_assoc, id]
theorem rot_F (l : List W64) (a1 a2 a3 : Int) : slices_rotateCmpFunc (FL l) a1 a2 a3 = (grotate cN l a1 a2 a3).map FL := by
  unfold slices_rotateCmpFunc grotate
  rw [show ((FL l, (IntKind.wrap .i64 (a2 - a1)), (IntKind.wrap .i64 (a3 - a2))) : List Fl × Int × Int) = P2 (l, (IntKind.wrap .i64 (a2 - a1)), (IntKind.wrap .i64 (a3 - a2))) from rfl, loop_map (rot_l a2)]
  simp only [P1, P2, ix_FL, lset_FL, len_FL, ahead_some, bind_cond, map_cond, Option.bind_map, Option.map_bind, Option.bind_some, Option.map_some, Option.map_map, Function.comp_def, Sum.map_inl, Sum.map_inr, Option.bind_assoc, id]
  simp only [swap_F]
  simp only [P1, P2, ix_FL, lset_FL, len_FL, ahead_some, bind_cond, map_cond, Option.bind_map, Option.map_bind, Option.bind_some, Option.map_some, Option.map_map, Function.comp_def, Sum.map_inl, Sum.map_inr, Option.bind_assoc, id]
theorem ins_l52 (a1 : Int) (s : List W64 × Int) : slices_insertionSortCmpFunc_l52 a1 (P1 s) = (ginsertionSort_l52 cN a1 s).map (Sum.map P1 FL) := by
  unfold slices_insertionSortCmpFunc_l52 ginsertionSort_l52
  simp only [P1, P2, ix_FL, lset_FL, len_FL, ahead_some, bind_cond, map_cond, Option.bind_map, Option.map_bind, Option.bind_some, Option.map_some, Option.map_map, Function.comp_def, Sum.map_inl, Sum.map_inr, Option.bind_assoc, id]
theorem ins_l25 (a1 a2 : Int) (s : List W64 × Int) : slices_insertionSortCmpFunc_l25 a1 a2 (P1 s) = (ginsertionSort_l25 cN a1 a2 s).map (Sum.map P1 FL) := by
  unfold slices_insertionSortCmpFunc_l25 ginsertionSort_l25
  rw [show (((P1 s).1, (P1 s).2) : List Fl × Int) = P1 (s.1, s.2) from rfl, loop_map (ins_l52 a1)]
  simp only [P1, P2, ix_FL, lset_FL, len_FL, ahead_some, bind_cond, map_cond, Option.bind_map, Option.map_bind, Option.bind_some, Option.map_some, Option.map_map, Function.comp_def, Sum.map_inl, Sum.map_inr, Option.bind_assoc, id]
theorem ins_F (l : List W64) (a1 a2 : Int) : slices_insertionSortCmpFunc (FL l) a1 a2 = (ginsertionSort cN l a1 a2).map FL := by
  unfold slices_insertionSortCmpFunc ginsertionSort
  rw [show ((FL l, (IntKind.wrap .i64 (a1 + 1))) : List Fl × Int) = P1 (l, (IntKind.wrap .i64 (a1 + 1))) from rfl, loop_map (ins_l25 a1 a2)]
  simp only [P1, P2, ix_FL, lset_FL, len_FL, ahead_some, bind_cond, map_cond, Option.bind_map, Option.map_bind, Option.bind_some, Option.map_some, Option.map_map, Function.comp_def, Sum.map_inl, Sum.map_inr, Option.bind_assoc, id]
theorem loop_same {σ ρ : Type} {b bp : σ → Option (σ ⊕ ρ)} (h : ∀ s, bp s = b s) (s : σ) : loopO bp s = loopO b s := by rw [show bp = b from funext h]
theorem sm_l17 (l : List W64) (a1 : Int) (s : Int × Int) : slices_symMergeCmpFunc_l17 (FL l) a1 s = gsymMerge_l17 cN l a1 s := by
  unfold slices_symMergeCmpFunc_l17 gsymMerge_l17
  simp only [P1, P2, ix_FL, lset_FL, len_FL, ahead_some, bind_cond, map_cond, Option.bind_map, Option.map_bind, Option.bind_some, Option.map_some, Option.map_map, Function.comp_def, Sum.map_inl, Sum.map_inr, Option.bind_assoc, id]
theorem sm_l74 (r : Int) (s : List W64 × Int) : slices_symMergeCmpFunc_l74 r (P1 s) = (gsymMerge_l68 cN r s).map (Sum.map P1 FL) := by
  unfold slices_symMergeCmpFunc_l74 gsymMerge_l68
  simp only [P1, P2, ix_FL, lset_FL, len_FL, ahead_some, bind_cond, map_cond, Option.bind_map, Option.map_bind, Option.bind_some, Option.map_some, Option.map_map, Function.comp_def, Sum.map_inl, Sum.map_inr, Option.bind_assoc, id]
theorem sm_l143 (l : List W64) (a2 : Int) (s : Int × Int) : slices_symMergeCmpFunc_l143 (FL l) a2 s = gsymMerge_l129 cN l a2 s := by
  unfold slices_symMergeCmpFunc_l143 gsymMerge_l129
  simp only [P1, P2, ix_FL, lset_FL, len_FL, ahead_some, bind_cond, map_cond, Option.bind_map, Option.map_bind, Option.bind_some, Option.map_some, Option.map_map, Function.comp_def, Sum.map_inl, Sum.map_inr, Option.bind_assoc, id]
theorem sm_l200 (r : Int) (s : List W64 × Int) : slices_symMergeCmpFunc_l200 r (P1 s) = (gsymMerge_l180 cN r s).map (Sum.map P1 FL) := by
  unfold slices_symMergeCmpFunc_l200 gsymMerge_l180
  simp only [P1, P2, ix_FL, lset_FL, len_FL, ahead_some, bind_cond, map_cond, Option.bind_map, Option.map_bind, Option.bind_some, Option.map_some, Option.map_map, Function.comp_def, Sum.map_inl, Sum.map_inr, Option.bind_assoc, id]
theorem sm_l274 (l : List W64) (a1 a2 a3 : Int) (s : Int × Int) : slices_symMergeCmpFunc_l274 (FL l) a1 a2 a3 s = gsymMerge_l246 cN l a1 a2 a3 s := by
  unfold slices_symMergeCmpFunc_l274 gsymMerge_l246
  simp only [P1, P2, ix_FL, lset_FL, len_FL, ahead_some, bind_cond, map_cond, Option.bind_map, Option.map_bind, Option.bind_some, Option.map_some, Option.map_map, Function.comp_def, Sum.map_inl, Sum.map_inr, Option.bind_assoc, id]
theorem sm_b {rp : List Fl → Int → Int → Int → Option (List Fl)} {rg : List W64 → Int → Int → Int → Option (List W64)} (hr : ∀ l a b c, rp (FL l) a b c = (rg l a b c).map FL) (l : List W64) (a1 a2 a3 : Int) :
    slices_symMergeCmpFunc_b rp (FL l) a1 a2 a3 = (gsymMerge_b cN rg l a1 a2 a3).map FL := by
  unfold slices_symMergeCmpFunc_b gsymMerge_b
  simp only [loop_same (sm_l17 l a1), loop_same (sm_l143 l a2), loop_same (sm_l274 l a1 a2 a3)]
  have e1 : ∀ r, loopO (slices_symMergeCmpFunc_l74 r) (FL l, a1) = (loopO (gsymMerge_l68 cN r) (l, a1)).map FL := fun r => loop_map (sm_l74 r) (l, a1)
  have e2 : ∀ r, loopO (slices_symMergeCmpFunc_l200 r) (FL l, a2) = (loopO (gsymMerge_l180 cN r) (l, a2)).map FL := fun r => loop_map (sm_l200 r) (l, a2)
  simp only [e1, e2, rot_F]
  simp only [P1, P2, ix_FL, lset_FL, len_FL, ahead_some, bind_cond, map_cond, Option.bind_map, Option.map_bind, Option.bind_some, Option.map_some, Option.map_map, Function.comp_def, Sum.map_inl, Sum.map_inr, Option.bind_assoc, id]
  simp only [hr]
  simp only [P1, P2, ix_FL, lset_FL, len_FL, ahead_some, bind_cond, map_cond, Option.bind_map, Option.map_bind, Option.bind_some, Option.map_some, Option.map_map, Function.comp_def, Sum.map_inl, Sum.map_inr, Option.bind_assoc, id]
  simp only [hr]
  simp only [P1, P2, ix_FL, lset_FL, len_FL, ahead_some, bind_cond, map_cond, Option.bind_map, Option.map_bind, Option.bind_some, Option.map_some, Option.map_map, Function.comp_def, Sum.map_inl, Sum.map_inr, Option.bind_assoc, id]
theorem sm_F (l : List W64) (a1 a2 a3 : Int) : slices_symMergeCmpFunc (FL l) a1 a2 a3 = (gsymMerge cN l a1 a2 a3).map FL := by
  unfold slices_symMergeCmpFunc gsymMerge
  generalize (4294967296 : Nat) = n
  have key : ∀ (n : Nat) (l : List W64) (a1 a2 a3 : Int), iterF (fun (rec_ : ((List Fl) × Int × Int × Int) → Option (List Fl)) (x : (List Fl) × Int × Int × Int) => slices_symMergeCmpFunc_b (fun a0 a1 a2 a3 => rec_ (a0, a1, a2, a3)) x.1 x.2.1 x.2.2.1 x.2.2.2) n (FL l, a1, a2, a3) =
      (iterF (fun (rec_ : ((List W64) × Int × Int × Int) → Option (List W64)) (x : (List W64) × Int × Int × Int) => gsymMerge_b cN (fun a0 a1 a2 a3 => rec_ (a0, a1, a2, a3)) x.1 x.2.1 x.2.2.1 x.2.2.2) n (l, a1, a2, a3)).map FL := by
    intro n
    induction n with
    | zero => intro l a1 a2 a3; rfl
    | succ n ih =>
      intro l a1 a2 a3
      rw [iterF_succ, iterF_succ]
      exact sm_b (rp := fun a0 a1 a2 a3 => iterF _ n (a0, a1, a2, a3)) (rg := fun a0 a1 a2 a3 => iterF _ n (a0, a1, a2, a3)) ih l a1 a2 a3
  exact key n l a1 a2 a3
theorem st_l25 (a1 : Int) (s : List W64 × Int × Int) : slices_stableCmpFunc_l25 a1 (P2 s) = (gstable_l25 cN a1 s).map (Sum.map P2 P1) := by
  unfold slices_stableCmpFunc_l25 gstable_l25
  simp only [P2, ins_F]
  simp only [P1, P2, ix_FL, lset_FL, len_FL, ahead_some, bind_cond, map_cond, Option.bind_map, Option.map_bind, Option.bind_some, Option.map_some, Option.map_map, Function.comp_def, Sum.map_inl, Sum.map_inr, Option.bind_assoc, id]
theorem st_l95 (a1 : Int) (z : List W64 × Int) (s : List W64 × Int × Int) : slices_stableCmpFunc_l95 a1 (P1 z) (P2 s) = (gstable_l95 cN a1 z s).map (Sum.map P2 P1) := by
  unfold slices_stableCmpFunc_l95 gstable_l95
  simp only [P2, sm_F]
  simp only [P1, P2, ix_FL, lset_FL, len_FL, ahead_some, bind_cond, map_cond, Option.bind_map, Option.map_bind, Option.bind_some, Option.map_some, Option.map_map, Function.comp_def, Sum.map_inl, Sum.map_inr, Option.bind_assoc, id]
theorem st_l68 (a1 : Int) (s : List W64 × Int) : slices_stableCmpFunc_l68 a1 (P1 s) = (gstable_l68 cN a1 s).map (Sum.map P1 FL) := by
  unfold slices_stableCmpFunc_l68 gstable_l68
  rw [show (((P1 s).1, (0 : Int), (IntKind.wrap .i64 (2 * (P1 s).2))) : List Fl × Int × Int) = P2 (s.1, 0, (IntKind.wrap .i64 (2 * s.2))) from rfl, loop_map (st_l95 a1 s)]
  simp only [P1, P2, ix_FL, lset_FL, len_FL, ahead_some, bind_cond, map_cond, Option.bind_map, Option.map_bind, Option.bind_some, Option.map_some, Option.map_map, Function.comp_def, Sum.map_inl, Sum.map_inr, Option.bind_assoc, id]
  simp only [sm_F]
  simp only [P1, P2, ix_FL, lset_FL, len_FL, ahead_some, bind_cond, map_cond, Option.bind_map, Option.map_bind, Option.bind_some, Option.map_some, Option.map_map, Function.comp_def, Sum.map_inl, Sum.map_inr, Option.bind_assoc, id]
/-- The sort of known floats. -/
theorem stable_F (l : List W64) : slices_SortStableFunc (FL l) = (gSortStable cN l).map FL := by
  unfold slices_SortStableFunc gSortStable slices_stableCmpFunc gstable
  rw [len_FL, show ((FL l, (0 : Int), (20 : Int)) : List Fl × Int × Int) = P2 (l, 0, 20) from rfl, loop_map (st_l25 _)]
  simp only [P1, P2, ix_FL, lset_FL, len_FL, ahead_some, bind_cond, map_cond, Option.bind_map, Option.map_bind, Option.bind_some, Option.map_some, Option.map_map, Function.comp_def, Sum.map_inl, Sum.map_inr, Option.bind_assoc, id]
  simp only [ins_F]
  simp only [P1, P2, ix_FL, lset_FL, len_FL, ahead_some, bind_cond, map_cond, Option.bind_map, Option.map_bind, Option.bind_some, Option.map_some, Option.map_map, Function.comp_def, Sum.map_inl, Sum.map_inr, Option.bind_assoc, id]
  have e : ∀ (n : Int) (z : List W64), loopO (slices_stableCmpFunc_l68 n) (FL z, 20) = (loopO (gstable_l68 cN n) (z, 20)).map FL := fun n z => loop_map (st_l68 n) (z, 20)
  simp only [e]
  simp only [P1, P2, ix_FL, lset_FL, len_FL, ahead_some, bind_cond, map_cond, Option.bind_map, Option.map_bind, Option.bind_some, Option.map_some, Option.map_map, Function.comp_def, Sum.map_inl, Sum.map_inr, Option.bind_assoc, id]
end Go.Proofs.YtkjkkimnjpodiaaGreatDoor

/- Plain laws: where a value stands when values are sorted. -/
set_option linter.unusedVariables false
set_option linter.unusedSimpArgs false
set_option maxRecDepth 100000
namespace Go.Proofs.YtkjkkimnjpodiaaGreatDoor
open Go.GB Go.Lib Ieee
/-- Beyond all numbers. -/
def bigN (c : Nat) : Nat := 2 ^ c
theorem bigN_pos (c : Nat) : 0 < bigN c := Nat.two_pow_pos c
theorem bigN_lt {a c : Nat} (h : a < c) : 2 ^ a < bigN c := Nat.pow_lt_pow_right (by decide) h
def bigI : Int := ((bigN 2100 : Nat) : Int)
theorem big_pos : 0 < bigI := Int.ofNat_lt.2 (bigN_pos 2100)
def rk : Datum → Int
  | .number s m p => signed s m (p + 1074).toNat
  | .infinity s => bif s then -bigI else bigI
  | .nan _ _ => -bigI - 1
structure GoodD (d : Datum) : Prop where
  num : ∀ s m p, d = .number s m p → -1074 ≤ p ∧ p ≤ 971 ∧ m < 2 ^ 53
/-- What a word reads. -/
theorem read_form {x : Nat} (hx : x < 18446744073709551616) : (∃ m p, double.read x = .number (x / 2 ^ 63 % 2 == 1) m p ∧ -1074 ≤ p ∧ p ≤ 971 ∧ m < 2 ^ 53 ∧ (p = -1074 ∨ 2 ^ 52 ≤ m) ∧ x % 2 ^ 63 = (p + 1074).toNat * 2 ^ 52 + m) ∨ (double.read x = .infinity (x / 2 ^ 63 % 2 == 1) ∧ x % 2 ^ 63 = 2047 * 2 ^ 52) ∨ (double.read x).isNaN = true := by
  have hsw : double.signWeight = 2 ^ 63 := by decide
  have hlp : double.leastPlace = -1074 := by decide
  have hbi : double.binade = 2 ^ 52 := rfl
  have hir : double.infRung = 2047 * 2 ^ 52 := by decide
  unfold Format.read
  rw [hsw, hlp, hbi, hir]
  simp only
  generalize hr : x % 2 ^ 63 = r
  by_cases h1 : r < 2 ^ 52
  · rw [if_pos h1]
    exact .inl ⟨r, -1074, rfl, by omega, by omega, by omega, .inl rfl, by omega⟩
  · rw [if_neg h1]
    by_cases h2 : r < 2047 * 2 ^ 52
    · rw [if_pos h2]
      refine .inl ⟨2 ^ 52 + r % 2 ^ 52, -1074 + (r / 2 ^ 52 - 1 : Nat), rfl, by omega, by omega, by omega, .inr (by omega), ?_⟩
      have : (-1074 + ((r / 2 ^ 52 - 1 : Nat) : Int) + 1074).toNat = r / 2 ^ 52 - 1 := by omega
      rw [this]
      omega
    · rw [if_neg h2]
      by_cases h3 : r = 2047 * 2 ^ 52
      · rw [if_pos h3]; exact .inr (.inl ⟨rfl, h3⟩)
      · rw [if_neg h3]; exact .inr (.inr rfl)
theorem read_good {x : Nat} (hx : x < 18446744073709551616) : GoodD (double.read x) := by
  rcases read_form hx with ⟨m, p, h, h1, h2, h3, _⟩ | ⟨h, _⟩ | h
  · rw [h]
    refine ⟨fun s m' p' e => ?_⟩
    cases e
    exact ⟨h1, h2, h3⟩
  · rw [h]; exact ⟨fun s m' p' e => by cases e⟩
  · cases hd : double.read x with
    | number s m p => rw [hd] at h; cases h
    | infinity s => rw [hd] at h; cases h
    | nan s f => exact ⟨fun s m' p' e => by cases e⟩
theorem pow_mul_pow {a b c : Nat} (h : a + b = c) : 2 ^ a * 2 ^ b = 2 ^ c := by rw [← h, Nat.pow_add]
theorem mul_pow_bound {m k a b c : Nat} (hk : k ≤ a) (hm : m < 2 ^ b) (hc : b + a ≤ c) : m * 2 ^ k < bigN c := by
  have e1 : m * 2 ^ k ≤ m * 2 ^ a := Nat.mul_le_mul_left _ (Nat.pow_le_pow_right (by decide) hk)
  have e2 : m * 2 ^ a < 2 ^ b * 2 ^ a := Nat.mul_lt_mul_of_pos_right hm (Nat.two_pow_pos _)
  have e3 : 2 ^ b * 2 ^ a ≤ bigN c := by unfold bigN; rw [← Nat.pow_add]; exact Nat.pow_le_pow_right (by decide) hc
  exact Nat.lt_of_le_of_lt e1 (Nat.lt_of_lt_of_le e2 e3)
theorem num_big {s : Bool} {m : Nat} {p : Int} (h1 : -1074 ≤ p) (h2 : p ≤ 971) (h3 : m < 2 ^ 53) : -bigI < signed s m (p + 1074).toNat ∧ signed s m (p + 1074).toNat < bigI := by
  have hk : (p + 1074).toNat ≤ 2045 := by omega
  generalize (p + 1074).toNat = k at hk
  have hm : m * 2 ^ k < bigN 2100 := mul_pow_bound (a := 2045) (b := 53) (c := 2100) hk h3 (by decide)
  have hmi : ((m * 2 ^ k : Nat) : Int) < bigI := Int.ofNat_lt.2 hm
  have hp := big_pos
  have h0 : (0 : Int) ≤ ((m * 2 ^ k : Nat) : Int) := Int.natCast_nonneg _
  unfold signed
  rw [Nat.shiftLeft_eq]
  generalize ((m * 2 ^ k : Nat) : Int) = y at *
  generalize bigI = B at *
  cases s
  · simp only [Bool.false_eq_true, if_false]; omega
  · simp only [if_true]; omega
theorem order_rk {d e : Datum} (hd : GoodD d) (he : GoodD e) (nd : d.isNaN = false) (ne : e.isNaN = false) : Datum.order d e = some (compare (rk d) (rk e)) := by
  have hp := big_pos
  cases d with
  | nan _ _ => cases nd
  | infinity s =>
    cases e with
    | nan _ _ => cases ne
    | infinity t =>
      simp only [Datum.order, rk]
      generalize bigI = B at *
      rw [icmp]
      have c0 : ∀ n : Nat, compare n n = Ordering.eq := fun n => Std.ReflCmp.compare_self
      cases s <;> cases t <;> simp only [cond_true, cond_false]
      · rw [if_neg (Int.lt_irrefl _), if_pos trivial, c0]
      · rw [if_neg (by omega), if_neg (by omega)]; rfl
      · rw [if_pos (by omega)]; rfl
      · rw [if_neg (Int.lt_irrefl _), if_pos trivial, c0]
    | number t m p =>
      obtain ⟨h1, h2, h3⟩ := he.num _ _ _ rfl
      obtain ⟨b1, b2⟩ := num_big (s := t) h1 h2 h3
      simp only [Datum.order, rk]
      generalize signed t m (p + 1074).toNat = y at *
      generalize bigI = B at *
      rw [icmp]
      cases s
      · simp only [cond_false, Bool.false_eq_true, if_false]; rw [if_neg (by omega), if_neg (by omega)]
      · simp only [cond_true, if_true]; rw [if_pos (by omega)]
  | number s m p =>
    obtain ⟨h1, h2, h3⟩ := hd.num _ _ _ rfl
    obtain ⟨b1, b2⟩ := num_big (s := s) h1 h2 h3
    cases e with
    | nan _ _ => cases ne
    | infinity t =>
      simp only [Datum.order, rk]
      generalize signed s m (p + 1074).toNat = y at *
      generalize bigI = B at *
      rw [icmp]
      cases t
      · simp only [cond_false, Bool.false_eq_true, if_false]; rw [if_pos (by omega)]
      · simp only [cond_true, if_true]; rw [if_neg (by omega), if_neg (by omega)]
    | number t n q =>
      obtain ⟨g1, g2, g3⟩ := he.num _ _ _ rfl
      rw [order_at (B := -1074) h1 g1]
      simp only [rk]
      rw [show p - -1074 = p + 1074 by omega, show q - -1074 = q + 1074 by omega]
/-! ### Words -/
def sgnN (x : Nat) : Int := ((x / 2 ^ 63 % 2 : Nat) : Int)
def isNN (x : W64) : Bool := (double.read x.1).isNaN
theorem nan_word (x : W64) : nanE (some x.1) = isNN x := by
  unfold nanE fcmp isNN
  cases h : (double.read x.1).isNaN with
  | true => 
    have : forder (some x.1) (some x.1) = none := order_nanl h _
    simp only [this]; rfl
  | false =>
    have : forder (some x.1) (some x.1) = some .eq := order_self h
    simp only [this]; rfl
theorem forder_word {x y : W64} (hx : isNN x = false) (hy : isNN y = false) : forder (some x.1) (some y.1) = some (compare (rk (double.read x.1)) (rk (double.read y.1))) := order_rk (read_good x.2) (read_good y.2) hx hy
/-- Where a word stands; what is no number ahead. -/
def key2 (x : W64) : Int := 2 * rk (double.read x.1) + (bif isNN x then 0 else 1 - sgnN x.1)
/-- And of these those with a sign ahead. -/
def key1 (x : W64) : Int := 2 * rk (double.read x.1) + (1 - sgnN x.1)
theorem rk_nan {x : W64} (h : isNN x = true) : rk (double.read x.1) = -bigI - 1 := by
  unfold isNN at h
  cases hd : double.read x.1 with
  | number s m p => rw [hd] at h; cases h
  | infinity s => rw [hd] at h; cases h
  | nan s f => rfl
theorem rk_num {x : W64} (h : isNN x = false) : -bigI ≤ rk (double.read x.1) := by
  have hp := big_pos
  have hg := read_good x.2
  unfold isNN at h
  cases hd : double.read x.1 with
  | number s m p =>
    rw [hd] at hg
    obtain ⟨h1, h2, h3⟩ := hg.num _ _ _ rfl
    have := (num_big (s := s) h1 h2 h3).1
    simp only [rk]; omega
  | infinity s => simp only [rk]; generalize bigI = B at *; cases s <;> simp only [cond_true, cond_false] <;> omega
  | nan s f => rw [hd] at h; cases h
theorem sgn_range (x : Nat) : sgnN x = 0 ∨ sgnN x = 1 := by unfold sgnN; omega
theorem shr_sgn (x : W64) : shr .u64 (x.1 : Int) 63 = sgnN x.1 := by
  unfold shr sgnN
  have := x.2
  show Int.fdiv (x.1 : Int) (2 ^ 63) = _
  rw [Int.fdiv_eq_ediv_of_nonneg _ (by decide)]
  omega
theorem key_mono {x y : W64} (h : key1 x ≤ key1 y) : key2 x ≤ key2 y := by
  unfold key1 at h
  unfold key2
  have s1 := sgn_range x.1
  have s2 := sgn_range y.1
  cases hx : isNN x with
  | true =>
    cases hy : isNN y with
    | true => rw [rk_nan hx, rk_nan hy]; simp only [cond_true]; omega
    | false => have := rk_num hy; rw [rk_nan hx]; simp only [cond_true, cond_false]; omega
  | false =>
    cases hy : isNN y with
    | true => have := rk_num hx; rw [rk_nan hy] at h; simp only [cond_true, cond_false]; omega
    | false => simp only [cond_false]; omega
/-- Two words that stand at one place are one, or neither is a number. -/
theorem key2_eq {x y : W64} (h : key2 x = key2 y) : x = y ∨ (isNN x = true ∧ isNN y = true) := by
  unfold key2 at h
  have s1 := sgn_range x.1
  have s2 := sgn_range y.1
  cases hx : isNN x with
  | true =>
    cases hy : isNN y with
    | true => exact .inr ⟨rfl, rfl⟩
    | false => have := rk_num hy; rw [rk_nan hx, hx, hy] at h; simp only [cond_true, cond_false] at h; omega
  | false =>
    cases hy : isNN y with
    | true => have := rk_num hx; rw [rk_nan hy, hx, hy] at h; simp only [cond_true, cond_false] at h; omega
    | false =>
      left
      rw [hx, hy] at h
      simp only [cond_false] at h
      have hr : rk (double.read x.1) = rk (double.read y.1) := by omega
      have hs : sgnN x.1 = sgnN y.1 := by omega
      have hsb : x.1 / 2 ^ 63 % 2 = y.1 / 2 ^ 63 % 2 := by unfold sgnN at hs; omega
      have hx2 := x.2
      have hy2 := y.2
      have hrung : x.1 % 2 ^ 63 = y.1 % 2 ^ 63 := by
        have hp := big_pos
        rcases read_form x.2 with ⟨m, p, e1, a1, a2, a3, a4, a5⟩ | ⟨e1, a1⟩ | e1
        · rcases read_form y.2 with ⟨n, q, e2, b1, b2, b3, b4, b5⟩ | ⟨e2, b1⟩ | e2
          · rw [e1, e2] at hr
            simp only [rk] at hr
            rw [hsb, signed_mul, signed_mul] at hr
            have hm : m * 2 ^ (p + 1074).toNat = n * 2 ^ (q + 1074).toNat := by
              generalize (y.1 / 2 ^ 63 % 2 == 1) = s at hr
              have e3 : ∀ (a k : Nat), (-(a : Int)) * ((2 ^ k : Nat) : Int) = -((a * 2 ^ k : Nat) : Int) := fun a k => by rw [Int.natCast_mul, Int.neg_mul]
              cases s
              · simp only [cond_false] at hr; rw [← Int.natCast_mul, ← Int.natCast_mul] at hr; exact Int.ofNat.inj hr
              · simp only [cond_true] at hr; rw [e3, e3] at hr; exact Int.ofNat.inj (Int.neg_inj.1 hr)
            rw [a5, b5]
            have key : ∀ (i j m n : Nat), m < 2 ^ 53 → (j = 0 ∨ 2 ^ 52 ≤ n) → i < j → m * 2 ^ i = n * 2 ^ j → False := fun i j m n h1 h2 h3 h4 => by
              obtain ⟨k, rfl⟩ : ∃ k, j = i + (k + 1) := ⟨j - i - 1, by omega⟩
              rw [show n * 2 ^ (i + (k + 1)) = (n * 2 ^ (k + 1)) * 2 ^ i by rw [Nat.pow_add, Nat.mul_comm (2 ^ i), Nat.mul_assoc]] at h4
              have h5 := Nat.eq_of_mul_eq_mul_right (Nat.two_pow_pos i) h4
              have h6 : n * 2 ≤ n * 2 ^ (k + 1) := Nat.mul_le_mul_left _ (by rw [Nat.pow_succ]; have := Nat.two_pow_pos k; omega)
              omega
            rcases Nat.lt_trichotomy (p + 1074).toNat (q + 1074).toNat with hlt | heq | hgt
            · exact (key _ _ _ _ a3 (by omega) hlt hm).elim
            · rw [heq] at hm ⊢
              have := Nat.eq_of_mul_eq_mul_right (Nat.two_pow_pos _) hm
              rw [this]
            · exact (key _ _ _ _ b3 (by omega) hgt hm.symm).elim
          · rw [e1, e2] at hr
            obtain ⟨c1, c2⟩ := num_big (s := (x.1 / 2 ^ 63 % 2 == 1)) a1 a2 a3
            simp only [rk] at hr
            generalize signed (x.1 / 2 ^ 63 % 2 == 1) m (p + 1074).toNat = z at *
            generalize bigI = B at *
            generalize (y.1 / 2 ^ 63 % 2 == 1) = s at hr
            cases s <;> simp only [cond_true, cond_false] at hr <;> omega
          · unfold isNN at hy; rw [e2] at hy; cases hy
        · rcases read_form y.2 with ⟨n, q, e2, b1, b2, b3, b4, b5⟩ | ⟨e2, b1⟩ | e2
          · rw [e1, e2] at hr
            obtain ⟨c1, c2⟩ := num_big (s := (y.1 / 2 ^ 63 % 2 == 1)) b1 b2 b3
            simp only [rk] at hr
            generalize signed (y.1 / 2 ^ 63 % 2 == 1) n (q + 1074).toNat = z at *
            generalize bigI = B at *
            generalize (x.1 / 2 ^ 63 % 2 == 1) = s at hr
            cases s <;> simp only [cond_true, cond_false] at hr <;> omega
          · rw [a1, b1]
          · unfold isNN at hy; rw [e2] at hy; cases hy
        · unfold isNN at hx; rw [e1] at hx; cases hx
      apply Subtype.ext
      omega
end Go.Proofs.YtkjkkimnjpodiaaGreatDoor

/- Plain laws: the program's and the document's order of values; sorted rows. -/
set_option linter.unusedVariables false
set_option linter.unusedSimpArgs false
set_option maxRecDepth 100000
namespace Go.Proofs.YtkjkkimnjpodiaaGreatDoor
open Go.GB Go.Lib
theorem cmp_word (x y : W64) : cmp_Compare (some x.1) (some y.1) = bif isNN x then (bif isNN y then 0 else -1) else bif isNN y then 1 else (if rk (Ieee.double.read x.1) < rk (Ieee.double.read y.1) then -1 else if rk (Ieee.double.read x.1) = rk (Ieee.double.read y.1) then 0 else 1) := by
  unfold cmp_Compare cmp_isNaN
  rw [show fcmp .neq (some x.1) (some x.1) = isNN x from nan_word x, show fcmp .neq (some y.1) (some y.1) = isNN y from nan_word y]
  cases hx : isNN x with
  | true => rfl
  | false =>
    cases hy : isNN y with
    | true => rfl
    | false =>
      simp only [cond_false]
      unfold fcmp
      rw [forder_word hx hy, icmp]
      simp only
      by_cases h1 : rk (Ieee.double.read x.1) < rk (Ieee.double.read y.1)
      · rw [if_pos h1, if_pos h1]; rfl
      · rw [if_neg h1, if_neg h1]
        by_cases h2 : rk (Ieee.double.read x.1) = rk (Ieee.double.read y.1)
        · rw [if_pos h2, if_pos h2]; rfl
        · rw [if_neg h2, if_neg h2]; rfl
theorem icmp_word (a b : Int) : cmp_Compare_f176 a b = if a < b then -1 else if a > b then 1 else 0 := by
  unfold cmp_Compare_f176 cmp_isNaN_f196
  rw [bne_self_eq_false, bne_self_eq_false]
  simp only [cond_false]
  by_cases h1 : a < b
  · rw [if_pos h1, decide_eq_true h1]; rfl
  · rw [if_neg h1, decide_eq_false h1]
    by_cases h2 : a > b
    · rw [if_pos h2, decide_eq_true h2]; rfl
    · rw [if_neg h2, decide_eq_false h2]; rfl
noncomputable def cw (x y : W64) : Int := bif isNN x then (bif isNN y then 0 else -1) else bif isNN y then 1 else (if rk (Ieee.double.read x.1) < rk (Ieee.double.read y.1) then -1 else if rk (Ieee.double.read x.1) = rk (Ieee.double.read y.1) then 0 else 1)
noncomputable def sw (x y : W64) : Int := if sgnN y.1 < sgnN x.1 then -1 else if sgnN y.1 > sgnN x.1 then 1 else 0
theorem cN_eq (x y : W64) : cN x y = if cw x y = 0 then sw x y else cw x y := by
  unfold cN aggr_ahead
  have hgo : (Option.bind (fbits (some y.1)) fun (q2 : Int) => Option.bind (fbits (some x.1)) fun (q4 : Int) => some (cmp_Compare_f176 (shr .u64 q2 63) (shr .u64 q4 63))) = some (sw x y) := by
    simp only [fbits, Option.bind_some]
    rw [shr_sgn, shr_sgn, icmp_word]; rfl
  rw [hgo, cmp_word]
  show (bif cw x y != 0 then some (cw x y) else some (sw x y)).getD 0 = _
  by_cases h : cw x y = 0
  · rw [if_pos h, show (cw x y != 0) = false by simpa using h]; rfl
  · rw [if_neg h, show (cw x y != 0) = true by simpa using h]; rfl
theorem cN_key (x y : W64) : ltc cN x y = decide (key1 x < key1 y) := by
  unfold ltc
  refine decide_eq_decide.2 ?_
  have s1 := sgn_range x.1
  have s2 := sgn_range y.1
  rw [cN_eq]
  unfold cw sw key1
  cases hx : isNN x with
  | true =>
    rw [rk_nan hx]
    cases hy : isNN y with
    | true =>
      rw [rk_nan hy]
      simp only [cond_true, if_true]
      by_cases h1 : sgnN y.1 < sgnN x.1
      · rw [if_pos h1]; omega
      · rw [if_neg h1]
        by_cases h2 : sgnN y.1 > sgnN x.1
        · rw [if_pos h2]; omega
        · rw [if_neg h2]; omega
    | false =>
      have := rk_num hy
      simp only [cond_true, cond_false]
      rw [if_neg (by omega)]
      omega
  | false =>
    cases hy : isNN y with
    | true =>
      have := rk_num hx
      rw [rk_nan hy]
      simp only [cond_true, cond_false]
      rw [if_neg (by omega)]
      omega
    | false =>
      simp only [cond_false]
      generalize rk (Ieee.double.read x.1) = u
      generalize rk (Ieee.double.read y.1) = v
      by_cases h1 : u < v
      · rw [if_pos h1, if_neg (by omega)]; omega
      · rw [if_neg h1]
        by_cases h2 : u = v
        · rw [if_pos h2, if_pos rfl]
          by_cases h3 : sgnN y.1 < sgnN x.1
          · rw [if_pos h3]; omega
          · rw [if_neg h3]
            by_cases h4 : sgnN y.1 > sgnN x.1
            · rw [if_pos h4]; omega
            · rw [if_neg h4]; omega
        · rw [if_neg h2, if_neg (by omega)]; omega
theorem swo_key : Swo (ltc cN) where
  asymm a b h := by rw [cN_key] at h ⊢; have := of_decide_eq_true h; exact decide_eq_false (by omega)
  trans a b c h k := by
    rw [cN_key] at h k ⊢
    have := of_decide_eq_false h
    have := of_decide_eq_false k
    exact decide_eq_false (by omega)
theorem FE.perm {α : Type} [DecidableEq α] {lt : α → α → Bool} (hs : Swo lt) {l m : List α} (h : FE lt l m) : l.Perm m := by
  rw [List.perm_iff_count]
  intro a
  rw [← List.count_filter (p := eqv lt a) (l := l) (hs.eqv_self a), ← List.count_filter (p := eqv lt a) (l := m) (hs.eqv_self a), h a]
/-- The program's sort. -/
theorem own_sorted (l : List W64) (hl : l.length < 2147483648) : ∃ z, slices_SortStableFunc (FL l) = some (FL z) ∧ z.Perm l ∧ z.Pairwise fun a b => key2 a ≤ key2 b := by
  obtain ⟨z, h1, h2, h3⟩ := gSortStable_eq swo_key l hl
  refine ⟨z, by rw [stable_F, h1]; rfl, FE.perm swo_key h2, h3.imp fun {a b} h => ?_⟩
  rw [cN_key] at h
  exact key_mono (by have := of_decide_eq_false h; omega)
theorem sign_word (x : W64) : math_Signbit (some x.1) = some (decide (sgnN x.1 = 1)) := by
  unfold math_Signbit
  simp only [fbits, Option.bind_some]
  congr 1
  have := x.2
  unfold sgnN
  have hw : IntKind.wrap .i64 (x.1 : Int) = if (x.1 : Int) < 9223372036854775808 then (x.1 : Int) else x.1 - 18446744073709551616 := by
    by_cases h : (x.1 : Int) < 9223372036854775808
    · rw [if_pos h, wrap64 (by omega) (by omega)]
    · rw [if_neg h]
      exact wrap_high (by omega) (by omega)
  rw [hw]
  split
  · rw [decide_eq_false (by omega), decide_eq_false (by omega)]
  · rw [decide_eq_true (by omega), decide_eq_true (by omega)]
where
  wrap_high {a : Int} (h1 : 9223372036854775808 ≤ a) (h2 : a < 18446744073709551616) : IntKind.wrap .i64 a = a - 18446744073709551616 := by
    unfold IntKind.wrap
    simp [IntKind.bits, IntKind.signed, Int.bmod]
    omega
/-- The document's order. -/
theorem ahead_key (x y : W64) : tocsinref15_ahead (some x.1) (some y.1) = some (decide (key2 x < key2 y)) := by
  unfold tocsinref15_ahead
  have hx0 := nan_word x
  have hy0 := nan_word y
  unfold nanE at hx0 hy0
  have s1 := sgn_range x.1
  have s2 := sgn_range y.1
  rw [hx0, hy0]
  unfold key2
  cases hx : isNN x with
  | true =>
    rw [rk_nan hx]
    simp only [cond_true, Option.bind_some]
    cases hy : isNN y with
    | true =>
      rw [hy] at hy0
      have : fcmp .eql (some y.1) (some y.1) = false := by
        have h := forder_nanl (p := some y.1) hy0 (some y.1)
        unfold fcmp; simp only [h]; rfl
      rw [this, rk_nan hy]
      simp only [cond_true]
      rw [decide_eq_false (by omega)]
    | false =>
      rw [hy] at hy0
      rw [(num_self hy0).2]
      have := rk_num hy
      simp only [cond_false]
      rw [decide_eq_true (by omega)]
  | false =>
    simp only [cond_false, Option.bind_some]
    cases hy : isNN y with
    | true =>
      have := rk_num hx
      rw [rk_nan hy]
      simp only [cond_true, cond_false, Option.bind_some]
      rw [decide_eq_false (by omega)]
    | false =>
      simp only [cond_false, sign_word, Option.bind_some]
      unfold fcmp
      rw [forder_word hx hy, icmp]
      simp only
      generalize rk (Ieee.double.read x.1) = u
      generalize rk (Ieee.double.read y.1) = v
      by_cases h1 : u < v
      · rw [if_pos h1]
        rw [show (some Ordering.lt == some Ordering.eq) = false from rfl, show (some Ordering.lt == some Ordering.lt) = true from rfl]
        simp only [cond_false]
        rw [decide_eq_true (by omega)]
      · rw [if_neg h1]
        by_cases h2 : u = v
        · rw [if_pos h2]
          rw [show (some Ordering.eq == some Ordering.eq) = true from rfl]
          simp only [cond_true]
          rcases s1 with h3 | h3
          · rw [h3, decide_eq_false (show ¬ ((0 : Int) = 1) by omega)]
            simp only [cond_false, Option.bind_some]
            rw [decide_eq_false (by omega)]
          · rw [h3, decide_eq_true (show ((1 : Int) = 1) by omega)]
            simp only [cond_true, Option.bind_some]
            rcases s2 with h4 | h4
            · rw [h4, decide_eq_false (show ¬ ((0 : Int) = 1) by omega), decide_eq_true (by omega)]; rfl
            · rw [h4, decide_eq_true (show ((1 : Int) = 1) by omega), decide_eq_false (by omega)]; rfl
        · rw [if_neg h2]
          rw [show (some Ordering.gt == some Ordering.eq) = false from rfl, show (some Ordering.gt == some Ordering.lt) = false from rfl]
          simp only [cond_false]
          rw [decide_eq_false (by omega)]
end Go.Proofs.YtkjkkimnjpodiaaGreatDoor

/- Plain laws: the document's insertion sort of values. -/
set_option linter.unusedVariables false
set_option linter.unusedSimpArgs false
set_option maxRecDepth 100000
namespace Go.Proofs.YtkjkkimnjpodiaaGreatDoor
open Go.GB Go.Lib
abbrev Up (l : List W64) : Prop := l.Pairwise fun a b => key2 a ≤ key2 b
theorem lx_FL (l : List W64) {a b : Nat} (h1 : a ≤ b) (h2 : b ≤ l.length) : lx (FL l) (a : Int) (b : Int) = some (FL ((l.take b).drop a)) := by
  unfold lx
  rw [if_pos ⟨by omega, by omega, by rw [len_FL]; omega⟩]
  unfold FL
  rw [← List.map_take, ← List.map_drop]; rfl
theorem ix_word {l : List W64} {i : Nat} (h : i < l.length) : ix (FL l) (i : Int) = some (some l[i].1) := by
  rw [ix_nat]; unfold FL; rw [List.getElem?_map, List.getElem?_eq_getElem h]; rfl
theorem place_loop {ws s : List W64} {i : Nat} (hi : i < ws.length) (hl : s.length < 2147483648) : ∀ k : Nat, k ≤ s.length → (∀ j (h : j < s.length), k ≤ j → key2 ws[i] < key2 s[j]) →
    ∃ r : Nat, loopO (tocsinref15_Quantile_l69 (FL ws) (FL s, (i : Int))) (k : Int) = some (r : Int) ∧ r ≤ s.length ∧ (∀ j (h : j < s.length), r ≤ j → key2 ws[i] < key2 s[j]) ∧ (∀ h : 0 < r, ∀ h' : r - 1 < s.length, key2 s[r - 1] ≤ key2 ws[i])
  | 0, hk, h => by
    refine ⟨0, ?_, by omega, h, fun h => by omega⟩
    refine loopO_done ?_
    unfold tocsinref15_Quantile_l69
    rfl
  | k + 1, hk, h => by
    have hw : IntKind.wrap .i64 (((k + 1 : Nat) : Int) - 1) = (k : Int) := by rw [wrap64 (by omega) (by omega)]; omega
    have hb : tocsinref15_Quantile_l69 (FL ws) (FL s, (i : Int)) ((k + 1 : Nat) : Int) = some (bif decide (key2 ws[i] < key2 s[k]) then .inl (k : Int) else .inr ((k + 1 : Nat) : Int)) := by
      unfold tocsinref15_Quantile_l69
      rw [show decide (((k + 1 : Nat) : Int) > 0) = true from decide_eq_true (by omega)]
      simp only [cond_true, hw, ix_word hi, ix_word (show k < s.length by omega), ahead_key, Option.bind_some]
      cases decide (key2 ws[i] < key2 s[k]) <;> rfl
    by_cases hlt : key2 ws[i] < key2 s[k]
    · rw [decide_eq_true hlt] at hb
      obtain ⟨r, h1, h2, h3, h4⟩ := place_loop hi hl k (by omega) (fun j hj hkj => by
        by_cases e : j = k
        · subst e; exact hlt
        · exact h j hj (by omega))
      exact ⟨r, by rw [loopO_step hb]; exact h1, h2, h3, h4⟩
    · rw [decide_eq_false hlt] at hb
      exact ⟨k + 1, loopO_done hb, hk, h, fun _ _ => by show key2 s[k] ≤ _; omega⟩
theorem put_up {s : List W64} (hs : Up s) {w : W64} {r : Nat} (h2 : r ≤ s.length) (h3 : ∀ j (h : j < s.length), r ≤ j → key2 w < key2 s[j]) (h4 : ∀ h : 0 < r, ∀ h' : r - 1 < s.length, key2 s[r - 1] ≤ key2 w) : Up (s.take r ++ [w] ++ s.drop r) := by
  have hd : ∀ b ∈ s.drop r, key2 w ≤ key2 b := fun b hb => by
    obtain ⟨j, hj, e⟩ := List.mem_iff_getElem.1 hb
    rw [List.getElem_drop] at e
    rw [List.length_drop] at hj
    have := h3 (r + j) (by omega) (by omega)
    rw [← e]; omega
  have ht : ∀ a ∈ s.take r, key2 a ≤ key2 w := fun a ha => by
    obtain ⟨j, hj, e⟩ := List.mem_iff_getElem.1 ha
    rw [List.getElem_take] at e
    rw [List.length_take] at hj
    have h5 := h4 (by omega) (by omega)
    by_cases hjr : j = r - 1
    · subst hjr; rw [← e]; exact h5
    · have := List.pairwise_iff_getElem.1 hs j (r - 1) (by omega) (by omega) (by omega)
      rw [← e]; omega
  refine List.pairwise_append.2 ⟨List.pairwise_append.2 ⟨hs.sublist (List.take_sublist _ _), List.pairwise_singleton _ _, fun a ha b hb => ?_⟩, hs.sublist (List.drop_sublist _ _), fun a ha b hb => ?_⟩
  · rw [List.mem_singleton.1 hb]; exact ht a ha
  · rcases List.mem_append.1 ha with h | h
    · exact Int.le_trans (ht a h) (hd b hb)
    · rw [List.mem_singleton.1 h]; exact hd b hb
theorem FL_app (a b : List W64) : FL a ++ FL b = FL (a ++ b) := (List.map_append).symm
/-- The document's sort. -/
theorem ref_sorted {ws : List W64} (hl : ws.length < 1073741824) : ∀ (d i : Nat) (s : List W64), ws.length - i = d → i ≤ ws.length → s.Perm (ws.take i) → Up s →
    ∃ z, loopO (tocsinref15_Quantile_l51 (FL ws)) (FL s, (i : Int)) = some (FL z) ∧ z.Perm ws ∧ Up z := by
  intro d
  induction d with
  | zero =>
    intro i s hd hi hp hs
    have e : i = ws.length := by omega
    subst e
    rw [List.take_length] at hp
    refine ⟨s, ?_, hp, hs⟩
    refine loopO_done ?_
    unfold tocsinref15_Quantile_l51
    simp only [len_FL]
    rw [decide_eq_false (show ¬ ((ws.length : Int) < (ws.length : Int)) by omega)]; rfl
  | succ d ih =>
    intro i s hd hi hp hs
    have hlt : i < ws.length := by omega
    have hsl : s.length = i := by rw [hp.length_eq, List.length_take]; omega
    obtain ⟨r, h1, h2, h3, h4⟩ := place_loop (ws := ws) (s := s) hlt (by omega) s.length (Nat.le_refl _) (fun j h k => by omega)
    have hb : tocsinref15_Quantile_l51 (FL ws) (FL s, (i : Int)) = some (.inl (FL (s.take r ++ [ws[i]] ++ s.drop r), ((i + 1 : Nat) : Int))) := by
      unfold tocsinref15_Quantile_l51
      simp only [len_FL]
      rw [decide_eq_true (show ((i : Int) < (ws.length : Int)) by omega)]
      have e0 := lx_FL s (a := 0) (b := r) (by omega) h2
      have e1 := lx_FL s (a := r) (b := s.length) h2 (Nat.le_refl _)
      rw [List.drop_zero] at e0
      rw [List.take_length] at e1
      rw [show ((0 : Nat) : Int) = 0 from rfl] at e0
      simp only [cond_true, h1, Option.bind_some, e0, e1, ix_word hlt, wrap_up (show i < 4294967296 by omega)]
      rw [app_eq (by simp [len_FL]; omega)]
      simp only [Option.bind_some, List.nil_append]
      rw [app_eq (by rw [len_FL, List.length_take]; simp; omega)]
      simp only [Option.bind_some]
      rw [show ([some ws[i].1] : List Fl) = FL [ws[i]] from rfl, FL_app, app_eq (by rw [len_FL, len_FL]; simp; omega), FL_app]
      rfl
    obtain ⟨z, g1, g2, g3⟩ := ih (i + 1) (s.take r ++ [ws[i]] ++ s.drop r) (by omega) (by omega) (by
      rw [List.take_add_one, List.getElem?_eq_getElem hlt]
      simp only [Option.toList_some]
      refine List.Perm.trans ?_ (hp.append_right _)
      have e2 : (s.take r ++ [ws[i]] ++ s.drop r).Perm (s.take r ++ s.drop r ++ [ws[i]]) := by
        rw [List.append_assoc, List.append_assoc]
        exact List.Perm.append_left _ List.perm_append_comm
      rw [List.take_append_drop] at e2
      exact e2) (put_up hs h2 h3 h4)
    exact ⟨z, by rw [loopO_step hb]; exact g1, g2, g3⟩
/-- Two rows that rise, of the same words. -/
theorem up_same {a b : List W64} (hp : a.Perm b) (ha : Up a) (hb : Up b) : a.map key2 = b.map key2 :=
  List.Perm.eq_of_pairwise (le := fun x y : Int => x ≤ y) (fun x y _ _ h1 h2 => Int.le_antisymm h1 h2) (List.pairwise_map.2 ha) (List.pairwise_map.2 hb) (hp.map _)
theorem up_at {a b : List W64} (hp : a.Perm b) (ha : Up a) (hb : Up b) {i : Nat} (h1 : i < a.length) (h2 : i < b.length) : a[i] = b[i] ∨ (isNN a[i] = true ∧ isNN b[i] = true) := by
  refine key2_eq ?_
  have h := up_same hp ha hb
  have e1 : (a.map key2)[i]? = (b.map key2)[i]? := by rw [h]
  rw [List.getElem?_map, List.getElem?_map, List.getElem?_eq_getElem h1, List.getElem?_eq_getElem h2] at e1
  simpa using e1
end Go.Proofs.YtkjkkimnjpodiaaGreatDoor

/- Plain laws: a share of a whole number, made whole, is none beyond it. -/
set_option linter.unusedVariables false
set_option linter.unusedSimpArgs false
set_option maxRecDepth 100000
namespace Go.Proofs.YtkjkkimnjpodiaaGreatDoor
open Go.GB Go.Lib Ieee
/-- Rounding stays below a whole number that is not below. -/
theorem cut_le {s : Bool} {n d N : Nat} (hN : N ≠ 0 ∨ n = 0) (h : n ≤ N * 2 ^ d) : Toward.even.cut s n d ≤ N := by
  by_cases hn : n = 0
  · subst hn
    unfold Toward.cut
    simp
  have hN0 : N ≠ 0 := by omega
  unfold Toward.cut
  simp only [Nat.shiftLeft_eq, Nat.one_mul]
  by_cases hd : d ≤ n.log2 + 2
  · rw [Nat.min_eq_left hd]
    have hp := Nat.two_pow_pos d
    have h1 : n / 2 ^ d ≤ N := by
      have := Nat.div_le_div_right (c := 2 ^ d) h
      rwa [Nat.mul_div_cancel _ hp] at this
    by_cases h2 : n / 2 ^ d = N
    · have h3 : n % 2 ^ d = 0 := by
        have := Nat.div_add_mod n (2 ^ d)
        rw [h2, Nat.mul_comm] at this
        omega
      rw [h2, h3]
      rw [show decide (2 ^ d < 2 * 0) = false from decide_eq_false (by omega), show ((2 ^ d : Nat) == 2 * 0) = false from beq_eq_false_iff_ne.2 (by omega)]
      simp
    · have : ∀ b : Bool, b.toNat ≤ 1 := fun b => by cases b <;> decide
      have := this (decide (2 ^ d < 2 * (n % 2 ^ d)) || (2 ^ d == 2 * (n % 2 ^ d) && n / 2 ^ d % 2 == 1))
      omega
  · rw [Nat.min_eq_right (by omega)]
    have h2 := @Nat.lt_log2_self n
    have h3 : n < 2 ^ (n.log2 + 2) := Nat.lt_trans h2 (Nat.pow_lt_pow_right (by omega) (by omega))
    rw [Nat.div_eq_of_lt h3]
    have : ∀ b : Bool, b.toNat ≤ 1 := fun b => by cases b <;> decide
    have := this (decide (2 ^ (n.log2 + 2) < 2 * (n % 2 ^ (n.log2 + 2))) || (2 ^ (n.log2 + 2) == 2 * (n % 2 ^ (n.log2 + 2)) && 0 % 2 == 1))
    omega
/-- What is below a whole number is so when it is written. -/
theorem near_le {s : Bool} {mag : Nat} {place : Int} {M : Nat} (hM : M < 2 ^ 53) (hM0 : M ≠ 0) (hm : mag ≠ 0) {b : Int} (hb : b ≤ place) (hb0 : b ≤ 0) (hbl : b ≤ -1074) (h : mag * 2 ^ (place - b).toNat ≤ M * 2 ^ (0 - b).toNat) :
    ∃ r e, double.read (double.nearest s mag place) = .number s r e ∧ -1074 ≤ e ∧ e ≤ 1 ∧ r * 2 ^ (e + 1074).toNat ≤ M * 2 ^ 1074 := by
  have hlp : double.leastPlace = -1074 := by decide
  have hfb : double.fractionBits = 52 := rfl
  have hbi : double.binade = 2 ^ 52 := rfl
  have hir : double.infRung = 2047 * 2 ^ 52 := by decide
  unfold Format.nearest
  rw [if_neg hm, hlp, hfb, hbi, hir]
  have hm1 := Nat.log2_self_le hm
  have hm2 := @Nat.lt_log2_self mag
  -- the number's own magnitude
  have hlog : place + mag.log2 ≤ 52 := by
    by_cases hc : place + (mag.log2 : Int) ≤ 52
    · exact hc
    · have e1 : 2 ^ (mag.log2 + (place - b).toNat) ≤ mag * 2 ^ (place - b).toNat := by rw [Nat.pow_add]; exact Nat.mul_le_mul_right _ hm1
      have e2 : M * 2 ^ (0 - b).toNat < 2 ^ 53 * 2 ^ (0 - b).toNat := Nat.mul_lt_mul_of_pos_right hM (Nat.two_pow_pos _)
      rw [← Nat.pow_add] at e2
      have e3 : 53 + (0 - b).toNat ≤ mag.log2 + (place - b).toNat := by omega
      have e4 : 2 ^ (53 + (0 - b).toNat) ≤ 2 ^ (mag.log2 + (place - b).toNat) := Nat.pow_le_pow_right (by omega) e3
      omega
  generalize hlast : max (place + (mag.log2 : Int) - ((52 : Nat) : Int)) (-1074) = last
  have hl0 : last ≤ 0 := by omega
  have hl1 : -1074 ≤ last := by omega
  simp only
  generalize hkept : Toward.even.cut s (mag <<< (place - last).toNat) (last - place).toNat = kept
  -- it is no more than M
  have hk : kept ≤ M * 2 ^ (0 - last).toNat := by
    rw [← hkept]
    refine cut_le (.inl (fun e => by rcases Nat.mul_eq_zero.1 e with e | e; exact hM0 e; have := Nat.two_pow_pos (0 - last).toNat; omega)) ?_
    rw [Nat.shiftLeft_eq, Nat.mul_assoc, ← Nat.pow_add]
    -- both sides times 2 ^ k
    refine Nat.le_of_mul_le_mul_right (c := 2 ^ (last - b).toNat) ?_ (Nat.two_pow_pos _)
    by_cases hpl : place ≤ last
    · rw [show (place - last).toNat = 0 by omega, Nat.pow_zero, Nat.mul_one, Nat.mul_assoc, ← Nat.pow_add]
      have e1 : (0 - last).toNat + (last - place).toNat + (last - b).toNat = (0 - b).toNat + (last - place).toNat := by omega
      have e2 : (last - b).toNat = (place - b).toNat + (last - place).toNat := by omega
      rw [e1, e2, Nat.pow_add, Nat.pow_add, ← Nat.mul_assoc, ← Nat.mul_assoc]
      exact Nat.mul_le_mul_right _ h
    · rw [show (last - place).toNat = 0 by omega, Nat.add_zero, Nat.mul_assoc, Nat.mul_assoc, ← Nat.pow_add, ← Nat.pow_add]
      rw [show (place - last).toNat + (last - b).toNat = (place - b).toNat by omega, show (0 - last).toNat + (last - b).toNat = (0 - b).toNat by omega]
      exact h
  -- it has its digits
  have hk2 : kept ≤ 2 ^ 53 := by
    rw [← hkept]
    refine cut_le (.inl (by decide)) ?_
    rw [Nat.shiftLeft_eq, ← Nat.pow_add]
    have e1 : mag * 2 ^ (place - last).toNat < 2 ^ (mag.log2 + 1) * 2 ^ (place - last).toNat := Nat.mul_lt_mul_of_pos_right hm2 (Nat.two_pow_pos _)
    rw [← Nat.pow_add] at e1
    have e2 : 2 ^ (mag.log2 + 1 + (place - last).toNat) ≤ 2 ^ (53 + (last - place).toNat) := Nat.pow_le_pow_right (by omega) (by omega)
    omega
  have hk3 : last = -1074 ∨ 2 ^ 52 ≤ kept := by
    by_cases hc : last = -1074
    · exact .inl hc
    right
    have hl2 : last = place + mag.log2 - 52 := by omega
    by_cases hpl : place ≤ last
    · -- some digits are dropped
      have hd : (place - last).toNat = 0 := by omega
      rw [hd, Nat.shiftLeft_zero] at hkept
      have hge : mag / 2 ^ (last - place).toNat ≤ kept := by
        rw [← hkept]
        unfold Toward.cut
        simp only [Nat.shiftLeft_eq, Nat.one_mul]
        rw [Nat.min_eq_left (by omega)]
        omega
      have : 2 ^ 52 ≤ mag / 2 ^ (last - place).toNat := by
        rw [Nat.le_div_iff_mul_le (Nat.two_pow_pos _), ← Nat.pow_add, show 52 + (last - place).toNat = mag.log2 by omega]
        exact hm1
      omega
    · rw [show (last - place).toNat = 0 by omega, cut_none, Nat.shiftLeft_eq] at hkept
      rw [← hkept]
      have : 2 ^ mag.log2 * 2 ^ (place - last).toNat ≤ mag * 2 ^ (place - last).toNat := Nat.mul_le_mul_right _ hm1
      rw [← Nat.pow_add, show mag.log2 + (place - last).toNat = 52 by omega] at this
      exact this
  have hfin : kept * 2 ^ (last + 1074).toNat ≤ M * 2 ^ 1074 := by
    have : kept * 2 ^ (last + 1074).toNat ≤ M * 2 ^ (0 - last).toNat * 2 ^ (last + 1074).toNat := Nat.mul_le_mul_right _ hk
    rwa [Nat.mul_assoc, ← Nat.pow_add, show (0 - last).toNat + (last + 1074).toNat = 1074 by omega] at this
  rw [show last - -1074 = last + 1074 by omega]
  have hq : (last + 1074).toNat ≤ 1074 := by omega
  rw [Nat.min_eq_left (by omega)]
  -- what is read
  by_cases h53 : kept = 2 ^ 53
  · refine ⟨2 ^ 52, last + 1, ?_, by omega, by omega, ?_⟩
    · rw [h53, show (last + 1074).toNat * 2 ^ 52 + 2 ^ 53 = ((last + 1074).toNat + 1) * 2 ^ 52 + 2 ^ 52 by omega, read_word s (by omega) (Nat.le_refl _) (by decide)]
      congr 1; omega
    · rw [show (last + 1 + 1074).toNat = (last + 1074).toNat + 1 by omega, ← Nat.pow_add, show 52 + ((last + 1074).toNat + 1) = 53 + (last + 1074).toNat by omega, Nat.pow_add]
      rw [h53] at hfin
      exact hfin
  · by_cases h52 : 2 ^ 52 ≤ kept
    · refine ⟨kept, last, ?_, by omega, by omega, hfin⟩
      rw [read_word s (by omega) h52 (by omega)]
      congr 1; omega
    · have hl3 : last = -1074 := by omega
      subst hl3
      refine ⟨kept, -1074, ?_, by omega, by omega, hfin⟩
      rw [show ((-1074 : Int) + 1074).toNat * 2 ^ 52 + kept = kept by simp]
      unfold Format.read Format.word
      have hsw : double.signWeight = 2 ^ 63 := by decide
      rw [hsw, hlp, hbi, hir]
      have hw : (if s then 2 ^ 63 + kept else kept) % 2 ^ 63 = kept := by cases s <;> simp <;> omega
      have hn : ((if s then 2 ^ 63 + kept else kept) / 2 ^ 63 % 2 == 1) = s := by
        cases s with
        | true => simp only [if_true]; rw [show (2 ^ 63 + kept) / 2 ^ 63 % 2 = 1 by omega]; rfl
        | false => simp only [Bool.false_eq_true, if_false]; rw [show kept / 2 ^ 63 % 2 = 0 by omega]; rfl
      simp only [hw, hn]
      rw [if_pos (by omega)]
theorem cut_zero {s : Bool} {n d N : Nat} (h : n ≤ N * 2 ^ d) : Toward.zero.cut s n d ≤ N := by
  unfold Toward.cut
  simp only [Nat.shiftLeft_eq, Nat.one_mul, Bool.toNat_false, Nat.add_zero]
  by_cases hd : d ≤ n.log2 + 2
  · rw [Nat.min_eq_left hd]
    have hp := Nat.two_pow_pos d
    have := Nat.div_le_div_right (c := 2 ^ d) h
    rwa [Nat.mul_div_cancel _ hp] at this
  · rw [Nat.min_eq_right (by omega)]
    have h2 := @Nat.lt_log2_self n
    have h3 : n < 2 ^ (n.log2 + 2) := Nat.lt_trans h2 (Nat.pow_lt_pow_right (by omega) (by omega))
    rw [Nat.div_eq_of_lt h3]; omega
theorem toInt_le {r : Nat} {e : Int} {M : Nat} (h1 : -1074 ≤ e) (h2 : e ≤ 1) (h : r * 2 ^ (e + 1074).toNat ≤ M * 2 ^ 1074) : ∃ i : Nat, Datum.toInt .zero (.number false r e) = some (i : Int) ∧ i ≤ M := by
  refine ⟨Toward.zero.cut false (r <<< e.toNat) (-e).toNat, ?_, ?_⟩
  · unfold Datum.toInt Datum.integral
    simp only
    rw [signed_mul]
    simp
  · refine cut_zero ?_
    rw [Nat.shiftLeft_eq]
    refine Nat.le_of_mul_le_mul_right (c := 2 ^ (1074 - (-e).toNat)) ?_ (Nat.two_pow_pos _)
    rw [Nat.mul_assoc, Nat.mul_assoc, ← Nat.pow_add, ← Nat.pow_add, show e.toNat + (1074 - (-e).toNat) = (e + 1074).toNat by omega, show (-e).toNat + (1074 - (-e).toNat) = 1074 by omega]
    exact h
def oneW : W64 := ⟨4607182418800017408, by decide⟩
def zeroW : W64 := ⟨0, by decide⟩
theorem one_read : double.read oneW.1 = .number false (2 ^ 52) (-52) := by decide
theorem zero_read : double.read zeroW.1 = .number false 0 (-1074) := by decide
theorem toInt_zero (s : Bool) (p : Int) : Datum.toInt .zero (double.read (double.write (.number s 0 p))) = some 0 := by
  simp only [Format.write]
  unfold Format.nearest
  rw [if_pos rfl]
  cases s <;> decide
theorem mul_shuffle {m mm M x y P : Nat} (hm : m * x ≤ P) (h : mm = M * y) : m * mm * x ≤ M * (P * y) := by
  have e : m * (M * y) * x = M * ((m * x) * y) := by simp only [Nat.mul_comm, Nat.mul_left_comm, Nat.mul_assoc]
  rw [h, e]
  exact Nat.mul_le_mul_left _ (Nat.mul_le_mul_right _ hm)
theorem shuffle2 {m mm M x y z k : Nat} (hm : m * 2 ^ x ≤ 2 ^ k) (h : mm = M * 2 ^ y) (hz : z = k + y) : m * mm * 2 ^ x ≤ M * 2 ^ z := by
  rw [hz, Nat.pow_add]
  exact mul_shuffle hm h
theorem idx_ok {q : W64} (hn : isNN q = false) (h0 : fcmp .lss (some q.1) (some 0) = false) (h1 : fcmp .gtr (some q.1) (some 4607182418800017408) = false) {M : Nat} (hM : M ≤ 2147483648) :
    ∃ i : Nat, ftoi .i64 (farith .mul (some q.1) (some (FloatKind.nearest .f64 (M : Int)))) = some (i : Int) ∧ i ≤ M := by
  have hz : forder (some q.1) (some 0) = some (compare (rk (double.read q.1)) (rk (double.read zeroW.1))) := forder_word (y := zeroW) hn (by unfold isNN; rw [zero_read]; rfl)
  have ho : forder (some q.1) (some 4607182418800017408) = some (compare (rk (double.read q.1)) (rk (double.read oneW.1))) := forder_word (y := oneW) hn (by unfold isNN; rw [one_read]; rfl)
  have rz : rk (double.read zeroW.1) = 0 := by rw [zero_read]; simp only [rk]; rw [signed_mul]; simp
  have ro : rk (double.read oneW.1) = ((2 ^ 1074 : Nat) : Int) := by
    rw [one_read]; simp only [rk]
    rw [signed_mul]
    simp only [cond_false]
    rw [← Int.natCast_mul, show ((-52 : Int) + 1074).toNat = 1022 from rfl, pow_mul_pow (a := 52) (b := 1022) (c := 1074) rfl]
  rw [rz] at hz
  rw [ro] at ho
  have k0 : 0 ≤ rk (double.read q.1) := by
    unfold fcmp at h0
    rw [hz, icmp] at h0
    by_cases h : rk (double.read q.1) < 0
    · rw [if_pos h] at h0; cases h0
    · omega
  have k1 : rk (double.read q.1) ≤ ((2 ^ 1074 : Nat) : Int) := by
    unfold fcmp at h1
    rw [ho, icmp] at h1
    generalize ((2 ^ 1074 : Nat) : Int) = B at *
    by_cases h : rk (double.read q.1) < B
    · omega
    · rw [if_neg h] at h1
      by_cases h' : rk (double.read q.1) = B
      · omega
      · rw [if_neg h'] at h1; cases h1
  have hwM : (FloatKind.nearest .f64 (M : Int)) = wordU 0 (M : Int) := rfl
  -- what is made whole
  have fin : ∀ i : Nat, i ≤ M → ∀ w : Nat, Datum.toInt .zero (double.read w) = some (i : Int) → ftoi .i64 (some w) = some (i : Int) := fun i hi w h => by
    unfold ftoi
    simp only [Option.bind_some]
    rw [show FloatKind.f64.decode w = double.read w from rfl, h]
    simp only
    rw [if_pos]
    have e1 : IntKind.min .i64 = -9223372036854775808 := by decide
    have e2 : IntKind.max .i64 = 9223372036854775807 := by decide
    omega
  rcases read_form q.2 with ⟨m, p, e, a1, a2, a3, _, _⟩ | ⟨e, _⟩ | e
  · generalize hsg : (q.1 / 2 ^ 63 % 2 == 1) = s at e
    rw [e] at k0 k1
    simp only [rk] at k0 k1
    obtain ⟨mm, j, e2, b1, b2⟩ := wordU_val (u := 0) (z := (M : Int)) (by omega) (by omega) (by omega)
    rw [decide_eq_false (show ¬ (M : Int) < 0 by omega)] at e2 b2
    have hmul : farith .mul (some q.1) (some (FloatKind.nearest .f64 (M : Int))) = some (double.write (.number (s ^^ false) (m * mm) (p + j))) := by
      show double.mul _ _ = _
      unfold Format.mul
      rw [hwM, e2, e]
      rfl
    rw [hmul]
    by_cases hmm : m * mm = 0
    · rw [hmm]
      exact ⟨0, fin 0 (by omega) _ (toInt_zero _ _), by omega⟩
    · have hm0 : m ≠ 0 := fun h => hmm (by rw [h, Nat.zero_mul])
      have hsf : s = false := by
        cases s with
        | false => rfl
        | true =>
          rw [signed_mul] at k0
          simp only [cond_true] at k0
          have : 0 < m * 2 ^ (p + 1074).toNat := Nat.mul_pos (by omega) (Nat.two_pow_pos _)
          rw [Int.neg_mul, ← Int.natCast_mul] at k0
          omega
      subst hsf
      rw [signed_mul] at k1
      simp only [cond_false] at k1
      rw [← Int.natCast_mul] at k1
      have k2 : m * 2 ^ (p + 1074).toNat ≤ 2 ^ 1074 := Int.ofNat_le.1 k1
      have b3 := b2 j (Int.le_refl _)
      rw [signed_mul] at b3
      simp only [cond_false] at b3
      rw [← Int.natCast_mul, ← Int.natCast_mul, show (j - j).toNat = 0 by omega, Nat.pow_zero, Nat.mul_one] at b3
      have b4 : mm = M * 2 ^ (0 - j).toNat := Int.ofNat.inj b3
      have hM0 : M ≠ 0 := fun h => hmm (by rw [b4, h, Nat.zero_mul, Nat.mul_zero])
      obtain ⟨r, e', g1, g2, g3, g4⟩ := near_le (s := (false ^^ false)) (mag := m * mm) (place := p + j) (M := M) (by omega) hM0 hmm (b := -1074 + j) (by omega) (by omega) (by omega) (by
        rw [show (p + j - (-1074 + j)).toNat = (p + 1074).toNat by omega]
        exact shuffle2 (k := 1074) k2 b4 (by omega))
      obtain ⟨i, i1, i2⟩ := toInt_le g2 g3 g4
      refine ⟨i, fin i i2 _ ?_, i2⟩
      simp only [Format.write]
      rw [g1]
      exact i1
  · exfalso
    rw [e] at k0 k1
    simp only [rk] at k0 k1
    have hb : ((2 ^ 1074 : Nat) : Int) < bigI := Int.ofNat_lt.2 (bigN_lt (a := 1074) (c := 2100) (by decide))
    have hp := big_pos
    generalize ((2 ^ 1074 : Nat) : Int) = B at *
    generalize (q.1 / 2 ^ 63 % 2 == 1) = s at *
    cases s
    · simp only [cond_false] at k1; omega
    · simp only [cond_true] at k0; omega
  · unfold isNN at hn; rw [e] at hn; cases hn
end Go.Proofs.YtkjkkimnjpodiaaGreatDoor

set_option linter.unusedVariables false
set_option linter.unusedSimpArgs false
set_option maxRecDepth 100000
namespace Go.Proofs.YtkjkkimnjpodiaaGreatDoor
open Go.GB Go.Lib
/-! ### One fold after another -/
theorem Told_eq (p : Fl) : tocsinref15_Told p = aggr_told p := rfl
theorem told_told (p : Fl) : aggr_told (aggr_told p) = aggr_told p := by
  cases h : nanE p with
  | false => rw [told_num h, told_num h]
  | true =>
    have h2 := told_nan h
    have e : ∀ x : Fl, nanE x = true → aggr_told x = (some (9221120237041090561 : Int).toNat : Fl) := fun x hx => by
      unfold aggr_told math_IsNaN; rw [show fcmp .neq x x = true from hx]; rfl
    rw [e _ h2, e _ h]
theorem told_some (p : Fl) : ∃ x, aggr_told p = some x := by
  cases p with
  | none => exact ⟨_, rfl⟩
  | some x => unfold aggr_told; cases math_IsNaN (some x) <;> exact ⟨_, rfl⟩
theorem rsum_eq (l : List Fl) (hl : l.length < 2147483648) : tocsinref16_sum l = sumE l := by
  unfold tocsinref16_sum
  cases l with
  | nil => rfl
  | cons x l =>
    rw [show ix (x :: l) (0 : Int) = some x from rfl, lx_tail]
    simp only [Option.bind_some]
    rw [fold_loop l (farith .add) id x (fun acc i hi => ?_) (fun acc => ?_)]
    · rfl
    · unfold tocsinref16_sum_l37
      rw [show decide ((((acc, (i : Int)) : Fl × Int)).2 < (l.length : Int)) = true from decide_eq_true (by show (i : Int) < _; omega)]
      simp only [cond_true, ix_nat, List.getElem?_eq_getElem hi, Option.bind_some, wrap_up (show i < 4294967296 by simp at hl; omega)]
    · unfold tocsinref16_sum_l37
      rw [show decide ((((acc, (l.length : Int)) : Fl × Int)).2 < (l.length : Int)) = false from decide_eq_false (by show ¬ (l.length : Int) < _; omega)]; rfl
theorem best_min {x : Fl} {l : List Fl} (hl : (x :: l).length < 2147483648) : tocsinref16_best (x :: l) true = some (mostE .lss (x :: l) x) := by
  unfold tocsinref16_best
  rw [show ix (x :: l) (0 : Int) = some x from rfl, lx_tail]
  simp only [Option.bind_some]
  rw [fold_loop l (fun m x => bif fcmp .lss x m || nanE m then x else m) id x (fun acc i hi => ?_) (fun acc => ?_)]
  · have : mostE .lss (x :: l) x = mostE .lss l x := by
      show mostE .lss l (bif fcmp .lss x x || nanE x then x else x) = _
      cases (fcmp .lss x x || nanE x) <;> rfl
    rw [this]; rfl
  · unfold tocsinref16_best_l37
    rw [show decide ((((acc, (i : Int)) : Fl × Int)).2 < (l.length : Int)) = true from decide_eq_true (by show (i : Int) < _; omega)]
    simp only [cond_true, ix_nat, List.getElem?_eq_getElem hi, Option.bind_some, wrap_up (show i < 4294967296 by simp at hl; omega), Bool.not_true, cond_false]
    unfold nanE
    cases fcmp .lss l[i] acc <;> cases fcmp .neq acc acc <;> rfl
  · unfold tocsinref16_best_l37
    rw [show decide ((((acc, (l.length : Int)) : Fl × Int)).2 < (l.length : Int)) = false from decide_eq_false (by show ¬ (l.length : Int) < _; omega)]; rfl
theorem best_max {x : Fl} {l : List Fl} (hl : (x :: l).length < 2147483648) : tocsinref16_best (x :: l) false = some (mostE .gtr (x :: l) x) := by
  unfold tocsinref16_best
  rw [show ix (x :: l) (0 : Int) = some x from rfl, lx_tail]
  simp only [Option.bind_some]
  rw [fold_loop l (fun m x => bif fcmp .gtr x m || nanE m then x else m) id x (fun acc i hi => ?_) (fun acc => ?_)]
  · have : mostE .gtr (x :: l) x = mostE .gtr l x := by
      show mostE .gtr l (bif fcmp .gtr x x || nanE x then x else x) = _
      cases (fcmp .gtr x x || nanE x) <;> rfl
    rw [this]; rfl
  · unfold tocsinref16_best_l37
    rw [show decide ((((acc, (i : Int)) : Fl × Int)).2 < (l.length : Int)) = true from decide_eq_true (by show (i : Int) < _; omega)]
    simp only [cond_true, ix_nat, List.getElem?_eq_getElem hi, Option.bind_some, wrap_up (show i < 4294967296 by simp at hl; omega), Bool.not_false, cond_false]
    unfold nanE
    cases fcmp .gtr l[i] acc <;> cases fcmp .neq acc acc <;> rfl
  · unfold tocsinref16_best_l37
    rw [show decide ((((acc, (l.length : Int)) : Fl × Int)).2 < (l.length : Int)) = false from decide_eq_false (by show ¬ (l.length : Int) < _; omega)]; rfl
noncomputable def avgE (l : List Fl) : Option Fl := (sumE l).bind fun y => some (farith .quo y (some (FloatKind.nearest .f64 (l.length : Int))))
noncomputable def sqE (l : List Fl) (m : Fl) : List Fl := l.map fun x => farith .mul (farith .sub x m) (farith .sub x m)
theorem sq_loop {l : List Fl} (hl : l.length < 2147483648) (m : Fl) : loopO (aggr_values_stdvar_l35 l m) ([], 0) = some (sqE l m) := by
  have := up_inv (body := aggr_values_stdvar_l35 l m) (fun k => (sqE (l.take k) m, (k : Int))) (n := l.length) (r := sqE l m) (fun k hk => by
      unfold aggr_values_stdvar_l35
      rw [show decide (((sqE (l.take k) m, (k : Int)) : List Fl × Int).2 < (l.length : Int)) = true from decide_eq_true (by show (k : Int) < _; omega)]
      simp only [cond_true, ix_nat, List.getElem?_eq_getElem hk, Option.bind_some, wrap_up (show k < 4294967296 by omega)]
      rw [app_eq (by unfold sqE; simp; omega)]
      simp only [Option.bind_some]
      unfold sqE
      rw [List.take_add_one, List.getElem?_eq_getElem hk, List.map_append]; rfl)
    (by
      unfold aggr_values_stdvar_l35
      rw [show decide (((sqE (l.take l.length) m, (l.length : Int)) : List Fl × Int).2 < (l.length : Int)) = false from decide_eq_false (by show ¬ (l.length : Int) < _; omega), List.take_length]; rfl) 0 (by omega)
  exact this
noncomputable def varE (l : List Fl) : Option Fl := (avgE l).bind fun m => (sumE (sqE l m)).bind fun y => some (farith .quo y (some (FloatKind.nearest .f64 (l.length : Int))))
theorem avg_eq (l : List Fl) (hl : l.length < 2147483648) (p : Fl) : aggr_values_avg l p = avgE l := by unfold aggr_values_avg avgE; rw [sum_eq l hl]
theorem var_eq (l : List Fl) (hl : l.length < 2147483648) (p : Fl) : aggr_values_stdvar l p = varE l := by
  unfold aggr_values_stdvar varE
  rw [avg_eq l hl]
  congr 1; funext m
  rw [sq_loop hl]
  simp only [Option.bind_some]
  rw [sum_eq _ (by unfold sqE; rw [List.length_map]; exact hl)]
theorem spread_eq (l : List Fl) (hl : l.length < 2147483648) : tocsinref16_spread l = varE l := by
  unfold tocsinref16_spread varE avgE
  rw [rsum_eq l hl, Option.bind_assoc]
  congr 1; funext s
  simp only [Option.bind_some]
  have e : tocsinref16_spread_l37 l s = aggr_values_stdvar_l35 l (farith .quo s (some (FloatKind.nearest .f64 (l.length : Int)))) := rfl
  rw [e, sq_loop hl]
  simp only [Option.bind_some]
  rw [rsum_eq _ (by unfold sqE; rw [List.length_map]; exact hl)]
theorem sumE_some {l : List Fl} (h : l ≠ []) : ∃ x, sumE l = some x := by
  cases l with
  | nil => exact absurd rfl h
  | cons x l => exact ⟨_, rfl⟩
theorem varE_some {l : List Fl} (h : l ≠ []) : ∃ x, varE l = some x := by
  obtain ⟨s, hs⟩ := sumE_some h
  unfold varE avgE
  rw [hs]
  simp only [Option.bind_some]
  obtain ⟨t, ht⟩ := sumE_some (l := sqE l (farith .quo s (some (FloatKind.nearest .f64 (l.length : Int))))) (by unfold sqE; simpa using h)
  rw [ht]
  exact ⟨_, rfl⟩
/-! ### Quantiles -/
theorem farith_nanl {op : BinOp} {p : Fl} (h : nanE p = true) (q : Fl) : farith op p q = none := by
  cases p with
  | none => rfl
  | some x =>
    cases q with
    | none => rfl
    | some y =>
      refine fbin_nan op (.inl ?_)
      cases hn : (Ieee.double.read x).isNaN with
      | true => exact hn
      | false =>
        have h2 : forder (some x) (some x) = some .eq := order_self hn
        unfold nanE fcmp at h
        simp only [h2] at h
        cases h
theorem mul_same {x y : W64} (h : x = y ∨ (isNN x = true ∧ isNN y = true)) (c : Fl) : farith .mul (some x.1) c = farith .mul (some y.1) c := by
  rcases h with rfl | ⟨h1, h2⟩
  · rfl
  · rw [farith_nanl (by rw [nan_word]; exact h1), farith_nanl (by rw [nan_word]; exact h2)]
theorem clone_F (l : List Fl) (hl : l.length < 2147483648) : slices_Clone l = some l := by
  unfold slices_Clone
  rw [app_eq (by simp; omega)]; rfl
theorem quant_same {ws : List W64} (h0 : ws ≠ []) (hl : ws.length < 1073741824) (q : W64) : ∃ x y, aggr_values_quantile (FL ws) (some q.1) = some x ∧ tocsinref15_Quantile (some q.1) (FL ws) = some y ∧ aggr_told x = aggr_told y := by
  have hn := nan_word q
  have hlen : 0 < ws.length := by cases ws with | nil => exact absurd rfl h0 | cons a b => simp
  unfold aggr_values_quantile tocsinref15_Quantile
  rw [len_FL, show ((ws.length : Int) == 0) = false from beq_eq_false_iff_ne.2 (by omega)]
  simp only [cond_false, Option.bind_some]
  rw [show math_IsNaN (some q.1) = nanE (some q.1) from rfl, show fcmp .neq (some q.1) (some q.1) = nanE (some q.1) from rfl, hn]
  cases hq : isNN q with
  | true =>
    rw [hq] at hn
    refine ⟨_, _, rfl, rfl, ?_⟩
    unfold aggr_told
    rw [show math_IsNaN (some q.1) = true from hn]
    simp only [cond_true]
    kernel_rfl
  | false =>
    simp only [cond_false]
    cases hq0 : fcmp .lss (some q.1) (some 0) with
    | true => exact ⟨_, _, rfl, rfl, rfl⟩
    | false =>
      simp only [cond_false]
      cases hq1 : fcmp .gtr (some q.1) (some 4607182418800017408) with
      | true => exact ⟨_, _, rfl, rfl, rfl⟩
      | false =>
        simp only [cond_false]
        obtain ⟨a, a1, a2, a3⟩ := own_sorted ws (by omega)
        obtain ⟨b, b1, b2, b3⟩ := ref_sorted (ws := ws) hl _ 0 [] rfl (by omega) (by rw [List.take_zero]) .nil
        rw [show ((FL ([] : List W64), ((0 : Nat) : Int)) : List Fl × Int) = ([], 0) from rfl] at b1
        rw [clone_F _ (by rw [len_FL]; omega)]
        simp only [Option.bind_some, a1, b1, len_FL]
        have la := a2.length_eq
        have lb := b2.length_eq
        rw [la, lb]
        have hw : IntKind.wrap .i64 ((ws.length : Int) - 1) = ((ws.length - 1 : Nat) : Int) := by rw [wrap64 (by omega) (by omega)]; omega
        rw [hw]
        obtain ⟨i, hi, hiM⟩ := idx_ok hq hq0 hq1 (M := ws.length - 1) (by omega)
        rw [hi]
        simp only [Option.bind_some]
        rw [wrap_up (show i < 4294967296 by omega)]
        obtain ⟨j, hj, hj1, hj2⟩ : ∃ j : Nat, (if ((ws.length - 1 : Nat) : Int) < ((i + 1 : Nat) : Int) then ((ws.length - 1 : Nat) : Int) else ((i + 1 : Nat) : Int)) = (j : Int) ∧ j < ws.length ∧ (bif decide (((i + 1 : Nat) : Int) > ((ws.length - 1 : Nat) : Int)) then some ((ws.length - 1 : Nat) : Int) else some ((i + 1 : Nat) : Int)) = some (j : Int) := by
          by_cases h : ((ws.length - 1 : Nat) : Int) < ((i + 1 : Nat) : Int)
          · exact ⟨ws.length - 1, by rw [if_pos h], by omega, by rw [decide_eq_true (by omega)]; first | done | rfl⟩
          · exact ⟨i + 1, by rw [if_neg h], by omega, by rw [decide_eq_false (by omega)]; first | done | rfl⟩
        rw [hj, hj2]
        simp only [Option.bind_some]
        rw [ix_word (l := a) (i := i) (by omega), ix_word (l := a) (i := j) (by omega), ix_word (l := b) (i := i) (by omega), ix_word (l := b) (i := j) (by omega)]
        simp only [Option.bind_some]
        refine ⟨_, _, rfl, rfl, ?_⟩
        rw [Told_eq, told_told]
        have hp := a2.trans b2.symm
        rw [mul_same (up_at hp a3 b3 (i := i) (by omega) (by omega)), mul_same (up_at hp a3 b3 (i := j) (by omega) (by omega))]
/-! ### By word -/
theorem fold_core {l : List Fl} {A R : Option Fl} (h : l ≠ [] → ∃ x y, A = some x ∧ R = some y ∧ aggr_told x = aggr_told y) :
    ∃ x e, (bif ((l.length : Int) == 0) then some ((some 0 : Fl), (5 : Int)) else Option.bind A fun y => some (aggr_told y, 0)) = some (some x, e) ∧
      (bif ((l.length : Int) == 0) then some ((some 0 : Fl), (5 : Int)) else Option.bind R fun y => some (tocsinref15_Told y, 0)) = some (some x, e) := by
  cases l with
  | nil => exact ⟨0, 5, rfl, rfl⟩
  | cons z l =>
    obtain ⟨x, y, h1, h2, h3⟩ := h (by simp)
    obtain ⟨w, hw⟩ := told_some x
    rw [show (((z :: l).length : Int) == 0) = false from beq_eq_false_iff_ne.2 (by simp; omega), h1, h2]
    refine ⟨w, 0, ?_, ?_⟩
    · show some (aggr_told x, (0 : Int)) = _; rw [hw]
    · show some (aggr_told y, (0 : Int)) = _; rw [← h3, hw]
theorem qq_0_0 : ((⟨#[115, 117, 109]⟩ : ByteArray).toList == (⟨#[115, 117, 109]⟩ : ByteArray).toList) = true := by kernel_rfl
theorem qq_0_1 : ((⟨#[115, 117, 109]⟩ : ByteArray).toList == (⟨#[97, 118, 103]⟩ : ByteArray).toList) = false := by kernel_rfl
theorem qq_0_2 : ((⟨#[115, 117, 109]⟩ : ByteArray).toList == (⟨#[109, 105, 110]⟩ : ByteArray).toList) = false := by kernel_rfl
theorem qq_0_3 : ((⟨#[115, 117, 109]⟩ : ByteArray).toList == (⟨#[109, 97, 120]⟩ : ByteArray).toList) = false := by kernel_rfl
theorem qq_0_4 : ((⟨#[115, 117, 109]⟩ : ByteArray).toList == (⟨#[99, 111, 117, 110, 116]⟩ : ByteArray).toList) = false := by kernel_rfl
theorem qq_0_5 : ((⟨#[115, 117, 109]⟩ : ByteArray).toList == (⟨#[103, 114, 111, 117, 112]⟩ : ByteArray).toList) = false := by kernel_rfl
theorem qq_0_6 : ((⟨#[115, 117, 109]⟩ : ByteArray).toList == (⟨#[115, 116, 100, 118, 97, 114]⟩ : ByteArray).toList) = false := by kernel_rfl
theorem qq_0_7 : ((⟨#[115, 117, 109]⟩ : ByteArray).toList == (⟨#[115, 116, 100, 100, 101, 118]⟩ : ByteArray).toList) = false := by kernel_rfl
theorem qq_0_8 : ((⟨#[115, 117, 109]⟩ : ByteArray).toList == (⟨#[113, 117, 97, 110, 116, 105, 108, 101]⟩ : ByteArray).toList) = false := by kernel_rfl
theorem qq_1_0 : ((⟨#[97, 118, 103]⟩ : ByteArray).toList == (⟨#[115, 117, 109]⟩ : ByteArray).toList) = false := by kernel_rfl
theorem qq_1_1 : ((⟨#[97, 118, 103]⟩ : ByteArray).toList == (⟨#[97, 118, 103]⟩ : ByteArray).toList) = true := by kernel_rfl
theorem qq_1_2 : ((⟨#[97, 118, 103]⟩ : ByteArray).toList == (⟨#[109, 105, 110]⟩ : ByteArray).toList) = false := by kernel_rfl
theorem qq_1_3 : ((⟨#[97, 118, 103]⟩ : ByteArray).toList == (⟨#[109, 97, 120]⟩ : ByteArray).toList) = false := by kernel_rfl
theorem qq_1_4 : ((⟨#[97, 118, 103]⟩ : ByteArray).toList == (⟨#[99, 111, 117, 110, 116]⟩ : ByteArray).toList) = false := by kernel_rfl
theorem qq_1_5 : ((⟨#[97, 118, 103]⟩ : ByteArray).toList == (⟨#[103, 114, 111, 117, 112]⟩ : ByteArray).toList) = false := by kernel_rfl
theorem qq_1_6 : ((⟨#[97, 118, 103]⟩ : ByteArray).toList == (⟨#[115, 116, 100, 118, 97, 114]⟩ : ByteArray).toList) = false := by kernel_rfl
theorem qq_1_7 : ((⟨#[97, 118, 103]⟩ : ByteArray).toList == (⟨#[115, 116, 100, 100, 101, 118]⟩ : ByteArray).toList) = false := by kernel_rfl
theorem qq_1_8 : ((⟨#[97, 118, 103]⟩ : ByteArray).toList == (⟨#[113, 117, 97, 110, 116, 105, 108, 101]⟩ : ByteArray).toList) = false := by kernel_rfl
theorem qq_2_0 : ((⟨#[109, 105, 110]⟩ : ByteArray).toList == (⟨#[115, 117, 109]⟩ : ByteArray).toList) = false := by kernel_rfl
theorem qq_2_1 : ((⟨#[109, 105, 110]⟩ : ByteArray).toList == (⟨#[97, 118, 103]⟩ : ByteArray).toList) = false := by kernel_rfl
theorem qq_2_2 : ((⟨#[109, 105, 110]⟩ : ByteArray).toList == (⟨#[109, 105, 110]⟩ : ByteArray).toList) = true := by kernel_rfl
theorem qq_2_3 : ((⟨#[109, 105, 110]⟩ : ByteArray).toList == (⟨#[109, 97, 120]⟩ : ByteArray).toList) = false := by kernel_rfl
theorem qq_2_4 : ((⟨#[109, 105, 110]⟩ : ByteArray).toList == (⟨#[99, 111, 117, 110, 116]⟩ : ByteArray).toList) = false := by kernel_rfl
theorem qq_2_5 : ((⟨#[109, 105, 110]⟩ : ByteArray).toList == (⟨#[103, 114, 111, 117, 112]⟩ : ByteArray).toList) = false := by kernel_rfl
theorem qq_2_6 : ((⟨#[109, 105, 110]⟩ : ByteArray).toList == (⟨#[115, 116, 100, 118, 97, 114]⟩ : ByteArray).toList) = false := by kernel_rfl
theorem qq_2_7 : ((⟨#[109, 105, 110]⟩ : ByteArray).toList == (⟨#[115, 116, 100, 100, 101, 118]⟩ : ByteArray).toList) = false := by kernel_rfl
theorem qq_2_8 : ((⟨#[109, 105, 110]⟩ : ByteArray).toList == (⟨#[113, 117, 97, 110, 116, 105, 108, 101]⟩ : ByteArray).toList) = false := by kernel_rfl
theorem qq_3_0 : ((⟨#[109, 97, 120]⟩ : ByteArray).toList == (⟨#[115, 117, 109]⟩ : ByteArray).toList) = false := by kernel_rfl
theorem qq_3_1 : ((⟨#[109, 97, 120]⟩ : ByteArray).toList == (⟨#[97, 118, 103]⟩ : ByteArray).toList) = false := by kernel_rfl
theorem qq_3_2 : ((⟨#[109, 97, 120]⟩ : ByteArray).toList == (⟨#[109, 105, 110]⟩ : ByteArray).toList) = false := by kernel_rfl
theorem qq_3_3 : ((⟨#[109, 97, 120]⟩ : ByteArray).toList == (⟨#[109, 97, 120]⟩ : ByteArray).toList) = true := by kernel_rfl
theorem qq_3_4 : ((⟨#[109, 97, 120]⟩ : ByteArray).toList == (⟨#[99, 111, 117, 110, 116]⟩ : ByteArray).toList) = false := by kernel_rfl
theorem qq_3_5 : ((⟨#[109, 97, 120]⟩ : ByteArray).toList == (⟨#[103, 114, 111, 117, 112]⟩ : ByteArray).toList) = false := by kernel_rfl
theorem qq_3_6 : ((⟨#[109, 97, 120]⟩ : ByteArray).toList == (⟨#[115, 116, 100, 118, 97, 114]⟩ : ByteArray).toList) = false := by kernel_rfl
theorem qq_3_7 : ((⟨#[109, 97, 120]⟩ : ByteArray).toList == (⟨#[115, 116, 100, 100, 101, 118]⟩ : ByteArray).toList) = false := by kernel_rfl
theorem qq_3_8 : ((⟨#[109, 97, 120]⟩ : ByteArray).toList == (⟨#[113, 117, 97, 110, 116, 105, 108, 101]⟩ : ByteArray).toList) = false := by kernel_rfl
theorem qq_4_0 : ((⟨#[99, 111, 117, 110, 116]⟩ : ByteArray).toList == (⟨#[115, 117, 109]⟩ : ByteArray).toList) = false := by kernel_rfl
theorem qq_4_1 : ((⟨#[99, 111, 117, 110, 116]⟩ : ByteArray).toList == (⟨#[97, 118, 103]⟩ : ByteArray).toList) = false := by kernel_rfl
theorem qq_4_2 : ((⟨#[99, 111, 117, 110, 116]⟩ : ByteArray).toList == (⟨#[109, 105, 110]⟩ : ByteArray).toList) = false := by kernel_rfl
theorem qq_4_3 : ((⟨#[99, 111, 117, 110, 116]⟩ : ByteArray).toList == (⟨#[109, 97, 120]⟩ : ByteArray).toList) = false := by kernel_rfl
theorem qq_4_4 : ((⟨#[99, 111, 117, 110, 116]⟩ : ByteArray).toList == (⟨#[99, 111, 117, 110, 116]⟩ : ByteArray).toList) = true := by kernel_rfl
theorem qq_4_5 : ((⟨#[99, 111, 117, 110, 116]⟩ : ByteArray).toList == (⟨#[103, 114, 111, 117, 112]⟩ : ByteArray).toList) = false := by kernel_rfl
theorem qq_4_6 : ((⟨#[99, 111, 117, 110, 116]⟩ : ByteArray).toList == (⟨#[115, 116, 100, 118, 97, 114]⟩ : ByteArray).toList) = false := by kernel_rfl
theorem qq_4_7 : ((⟨#[99, 111, 117, 110, 116]⟩ : ByteArray).toList == (⟨#[115, 116, 100, 100, 101, 118]⟩ : ByteArray).toList) = false := by kernel_rfl
theorem qq_4_8 : ((⟨#[99, 111, 117, 110, 116]⟩ : ByteArray).toList == (⟨#[113, 117, 97, 110, 116, 105, 108, 101]⟩ : ByteArray).toList) = false := by kernel_rfl
theorem qq_5_0 : ((⟨#[103, 114, 111, 117, 112]⟩ : ByteArray).toList == (⟨#[115, 117, 109]⟩ : ByteArray).toList) = false := by kernel_rfl
theorem qq_5_1 : ((⟨#[103, 114, 111, 117, 112]⟩ : ByteArray).toList == (⟨#[97, 118, 103]⟩ : ByteArray).toList) = false := by kernel_rfl
theorem qq_5_2 : ((⟨#[103, 114, 111, 117, 112]⟩ : ByteArray).toList == (⟨#[109, 105, 110]⟩ : ByteArray).toList) = false := by kernel_rfl
theorem qq_5_3 : ((⟨#[103, 114, 111, 117, 112]⟩ : ByteArray).toList == (⟨#[109, 97, 120]⟩ : ByteArray).toList) = false := by kernel_rfl
theorem qq_5_4 : ((⟨#[103, 114, 111, 117, 112]⟩ : ByteArray).toList == (⟨#[99, 111, 117, 110, 116]⟩ : ByteArray).toList) = false := by kernel_rfl
theorem qq_5_5 : ((⟨#[103, 114, 111, 117, 112]⟩ : ByteArray).toList == (⟨#[103, 114, 111, 117, 112]⟩ : ByteArray).toList) = true := by kernel_rfl
theorem qq_5_6 : ((⟨#[103, 114, 111, 117, 112]⟩ : ByteArray).toList == (⟨#[115, 116, 100, 118, 97, 114]⟩ : ByteArray).toList) = false := by kernel_rfl
theorem qq_5_7 : ((⟨#[103, 114, 111, 117, 112]⟩ : ByteArray).toList == (⟨#[115, 116, 100, 100, 101, 118]⟩ : ByteArray).toList) = false := by kernel_rfl
theorem qq_5_8 : ((⟨#[103, 114, 111, 117, 112]⟩ : ByteArray).toList == (⟨#[113, 117, 97, 110, 116, 105, 108, 101]⟩ : ByteArray).toList) = false := by kernel_rfl
theorem qq_6_0 : ((⟨#[115, 116, 100, 118, 97, 114]⟩ : ByteArray).toList == (⟨#[115, 117, 109]⟩ : ByteArray).toList) = false := by kernel_rfl
theorem qq_6_1 : ((⟨#[115, 116, 100, 118, 97, 114]⟩ : ByteArray).toList == (⟨#[97, 118, 103]⟩ : ByteArray).toList) = false := by kernel_rfl
theorem qq_6_2 : ((⟨#[115, 116, 100, 118, 97, 114]⟩ : ByteArray).toList == (⟨#[109, 105, 110]⟩ : ByteArray).toList) = false := by kernel_rfl
theorem qq_6_3 : ((⟨#[115, 116, 100, 118, 97, 114]⟩ : ByteArray).toList == (⟨#[109, 97, 120]⟩ : ByteArray).toList) = false := by kernel_rfl
theorem qq_6_4 : ((⟨#[115, 116, 100, 118, 97, 114]⟩ : ByteArray).toList == (⟨#[99, 111, 117, 110, 116]⟩ : ByteArray).toList) = false := by kernel_rfl
theorem qq_6_5 : ((⟨#[115, 116, 100, 118, 97, 114]⟩ : ByteArray).toList == (⟨#[103, 114, 111, 117, 112]⟩ : ByteArray).toList) = false := by kernel_rfl
theorem qq_6_6 : ((⟨#[115, 116, 100, 118, 97, 114]⟩ : ByteArray).toList == (⟨#[115, 116, 100, 118, 97, 114]⟩ : ByteArray).toList) = true := by kernel_rfl
theorem qq_6_7 : ((⟨#[115, 116, 100, 118, 97, 114]⟩ : ByteArray).toList == (⟨#[115, 116, 100, 100, 101, 118]⟩ : ByteArray).toList) = false := by kernel_rfl
theorem qq_6_8 : ((⟨#[115, 116, 100, 118, 97, 114]⟩ : ByteArray).toList == (⟨#[113, 117, 97, 110, 116, 105, 108, 101]⟩ : ByteArray).toList) = false := by kernel_rfl
theorem qq_7_0 : ((⟨#[115, 116, 100, 100, 101, 118]⟩ : ByteArray).toList == (⟨#[115, 117, 109]⟩ : ByteArray).toList) = false := by kernel_rfl
theorem qq_7_1 : ((⟨#[115, 116, 100, 100, 101, 118]⟩ : ByteArray).toList == (⟨#[97, 118, 103]⟩ : ByteArray).toList) = false := by kernel_rfl
theorem qq_7_2 : ((⟨#[115, 116, 100, 100, 101, 118]⟩ : ByteArray).toList == (⟨#[109, 105, 110]⟩ : ByteArray).toList) = false := by kernel_rfl
theorem qq_7_3 : ((⟨#[115, 116, 100, 100, 101, 118]⟩ : ByteArray).toList == (⟨#[109, 97, 120]⟩ : ByteArray).toList) = false := by kernel_rfl
theorem qq_7_4 : ((⟨#[115, 116, 100, 100, 101, 118]⟩ : ByteArray).toList == (⟨#[99, 111, 117, 110, 116]⟩ : ByteArray).toList) = false := by kernel_rfl
theorem qq_7_5 : ((⟨#[115, 116, 100, 100, 101, 118]⟩ : ByteArray).toList == (⟨#[103, 114, 111, 117, 112]⟩ : ByteArray).toList) = false := by kernel_rfl
theorem qq_7_6 : ((⟨#[115, 116, 100, 100, 101, 118]⟩ : ByteArray).toList == (⟨#[115, 116, 100, 118, 97, 114]⟩ : ByteArray).toList) = false := by kernel_rfl
theorem qq_7_7 : ((⟨#[115, 116, 100, 100, 101, 118]⟩ : ByteArray).toList == (⟨#[115, 116, 100, 100, 101, 118]⟩ : ByteArray).toList) = true := by kernel_rfl
theorem qq_7_8 : ((⟨#[115, 116, 100, 100, 101, 118]⟩ : ByteArray).toList == (⟨#[113, 117, 97, 110, 116, 105, 108, 101]⟩ : ByteArray).toList) = false := by kernel_rfl
theorem qq_8_0 : ((⟨#[113, 117, 97, 110, 116, 105, 108, 101]⟩ : ByteArray).toList == (⟨#[115, 117, 109]⟩ : ByteArray).toList) = false := by kernel_rfl
theorem qq_8_1 : ((⟨#[113, 117, 97, 110, 116, 105, 108, 101]⟩ : ByteArray).toList == (⟨#[97, 118, 103]⟩ : ByteArray).toList) = false := by kernel_rfl
theorem qq_8_2 : ((⟨#[113, 117, 97, 110, 116, 105, 108, 101]⟩ : ByteArray).toList == (⟨#[109, 105, 110]⟩ : ByteArray).toList) = false := by kernel_rfl
theorem qq_8_3 : ((⟨#[113, 117, 97, 110, 116, 105, 108, 101]⟩ : ByteArray).toList == (⟨#[109, 97, 120]⟩ : ByteArray).toList) = false := by kernel_rfl
theorem qq_8_4 : ((⟨#[113, 117, 97, 110, 116, 105, 108, 101]⟩ : ByteArray).toList == (⟨#[99, 111, 117, 110, 116]⟩ : ByteArray).toList) = false := by kernel_rfl
theorem qq_8_5 : ((⟨#[113, 117, 97, 110, 116, 105, 108, 101]⟩ : ByteArray).toList == (⟨#[103, 114, 111, 117, 112]⟩ : ByteArray).toList) = false := by kernel_rfl
theorem qq_8_6 : ((⟨#[113, 117, 97, 110, 116, 105, 108, 101]⟩ : ByteArray).toList == (⟨#[115, 116, 100, 118, 97, 114]⟩ : ByteArray).toList) = false := by kernel_rfl
theorem qq_8_7 : ((⟨#[113, 117, 97, 110, 116, 105, 108, 101]⟩ : ByteArray).toList == (⟨#[115, 116, 100, 100, 101, 118]⟩ : ByteArray).toList) = false := by kernel_rfl
theorem qq_8_8 : ((⟨#[113, 117, 97, 110, 116, 105, 108, 101]⟩ : ByteArray).toList == (⟨#[113, 117, 97, 110, 116, 105, 108, 101]⟩ : ByteArray).toList) = true := by kernel_rfl
theorem ref_sum (l : List Fl) (q : Fl) : tocsinref16_Fold (⟨#[115, 117, 109]⟩ : ByteArray) l q = bif ((l.length : Int) == 0) then some (some 0, 5) else Option.bind ((tocsinref16_sum l) : Option Fl) fun y => some (tocsinref15_Told y, 0) := by
  unfold tocsinref16_Fold
  simp only [qq_0_0, qq_0_1, qq_0_2, qq_0_3, qq_0_4, qq_0_5, qq_0_6, qq_0_7, qq_0_8, cond_true, cond_false, Bool.true_or, Bool.or_true, Bool.or_false, Bool.false_or, Bool.not_true, Option.bind_assoc, Option.bind_some]
theorem own_sum (l : List Fl) (q : Fl) : aggr_Fold (⟨#[115, 117, 109]⟩ : ByteArray) l q = bif ((l.length : Int) == 0) then some (some 0, 5) else Option.bind (tabf_48 1 l q) fun y => some (aggr_told y, 0) := by
  unfold aggr_Fold
  rw [show aggr_fold (⟨#[115, 117, 109]⟩ : ByteArray) = 1 by kernel_rfl]
  rfl
theorem ref_avg (l : List Fl) (q : Fl) : tocsinref16_Fold (⟨#[97, 118, 103]⟩ : ByteArray) l q = bif ((l.length : Int) == 0) then some (some 0, 5) else Option.bind ((Option.bind (tocsinref16_sum l) fun y => some (farith .quo y (some (FloatKind.nearest .f64 (l.length : Int))))) : Option Fl) fun y => some (tocsinref15_Told y, 0) := by
  unfold tocsinref16_Fold
  simp only [qq_1_0, qq_1_1, qq_1_2, qq_1_3, qq_1_4, qq_1_5, qq_1_6, qq_1_7, qq_1_8, cond_true, cond_false, Bool.true_or, Bool.or_true, Bool.or_false, Bool.false_or, Bool.not_true, Option.bind_assoc, Option.bind_some]
theorem own_avg (l : List Fl) (q : Fl) : aggr_Fold (⟨#[97, 118, 103]⟩ : ByteArray) l q = bif ((l.length : Int) == 0) then some (some 0, 5) else Option.bind (tabf_48 2 l q) fun y => some (aggr_told y, 0) := by
  unfold aggr_Fold
  rw [show aggr_fold (⟨#[97, 118, 103]⟩ : ByteArray) = 2 by kernel_rfl]
  rfl
theorem ref_min (l : List Fl) (q : Fl) : tocsinref16_Fold (⟨#[109, 105, 110]⟩ : ByteArray) l q = bif ((l.length : Int) == 0) then some (some 0, 5) else Option.bind ((tocsinref16_best l true) : Option Fl) fun y => some (tocsinref15_Told y, 0) := by
  unfold tocsinref16_Fold
  simp only [qq_2_0, qq_2_1, qq_2_2, qq_2_3, qq_2_4, qq_2_5, qq_2_6, qq_2_7, qq_2_8, cond_true, cond_false, Bool.true_or, Bool.or_true, Bool.or_false, Bool.false_or, Bool.not_true, Option.bind_assoc, Option.bind_some]
theorem own_min (l : List Fl) (q : Fl) : aggr_Fold (⟨#[109, 105, 110]⟩ : ByteArray) l q = bif ((l.length : Int) == 0) then some (some 0, 5) else Option.bind (tabf_48 3 l q) fun y => some (aggr_told y, 0) := by
  unfold aggr_Fold
  rw [show aggr_fold (⟨#[109, 105, 110]⟩ : ByteArray) = 3 by kernel_rfl]
  rfl
theorem ref_max (l : List Fl) (q : Fl) : tocsinref16_Fold (⟨#[109, 97, 120]⟩ : ByteArray) l q = bif ((l.length : Int) == 0) then some (some 0, 5) else Option.bind ((tocsinref16_best l false) : Option Fl) fun y => some (tocsinref15_Told y, 0) := by
  unfold tocsinref16_Fold
  simp only [qq_3_0, qq_3_1, qq_3_2, qq_3_3, qq_3_4, qq_3_5, qq_3_6, qq_3_7, qq_3_8, cond_true, cond_false, Bool.true_or, Bool.or_true, Bool.or_false, Bool.false_or, Bool.not_true, Option.bind_assoc, Option.bind_some]
theorem own_max (l : List Fl) (q : Fl) : aggr_Fold (⟨#[109, 97, 120]⟩ : ByteArray) l q = bif ((l.length : Int) == 0) then some (some 0, 5) else Option.bind (tabf_48 4 l q) fun y => some (aggr_told y, 0) := by
  unfold aggr_Fold
  rw [show aggr_fold (⟨#[109, 97, 120]⟩ : ByteArray) = 4 by kernel_rfl]
  rfl
theorem ref_count (l : List Fl) (q : Fl) : tocsinref16_Fold (⟨#[99, 111, 117, 110, 116]⟩ : ByteArray) l q = bif ((l.length : Int) == 0) then some (some 0, 5) else Option.bind ((some (some (FloatKind.nearest .f64 (l.length : Int)))) : Option Fl) fun y => some (tocsinref15_Told y, 0) := by
  unfold tocsinref16_Fold
  simp only [qq_4_0, qq_4_1, qq_4_2, qq_4_3, qq_4_4, qq_4_5, qq_4_6, qq_4_7, qq_4_8, cond_true, cond_false, Bool.true_or, Bool.or_true, Bool.or_false, Bool.false_or, Bool.not_true, Option.bind_assoc, Option.bind_some]
theorem own_count (l : List Fl) (q : Fl) : aggr_Fold (⟨#[99, 111, 117, 110, 116]⟩ : ByteArray) l q = bif ((l.length : Int) == 0) then some (some 0, 5) else Option.bind (tabf_48 5 l q) fun y => some (aggr_told y, 0) := by
  unfold aggr_Fold
  rw [show aggr_fold (⟨#[99, 111, 117, 110, 116]⟩ : ByteArray) = 5 by kernel_rfl]
  rfl
theorem ref_group (l : List Fl) (q : Fl) : tocsinref16_Fold (⟨#[103, 114, 111, 117, 112]⟩ : ByteArray) l q = bif ((l.length : Int) == 0) then some (some 0, 5) else Option.bind ((some (some 4607182418800017408)) : Option Fl) fun y => some (tocsinref15_Told y, 0) := by
  unfold tocsinref16_Fold
  simp only [qq_5_0, qq_5_1, qq_5_2, qq_5_3, qq_5_4, qq_5_5, qq_5_6, qq_5_7, qq_5_8, cond_true, cond_false, Bool.true_or, Bool.or_true, Bool.or_false, Bool.false_or, Bool.not_true, Option.bind_assoc, Option.bind_some]
theorem own_group (l : List Fl) (q : Fl) : aggr_Fold (⟨#[103, 114, 111, 117, 112]⟩ : ByteArray) l q = bif ((l.length : Int) == 0) then some (some 0, 5) else Option.bind (tabf_48 6 l q) fun y => some (aggr_told y, 0) := by
  unfold aggr_Fold
  rw [show aggr_fold (⟨#[103, 114, 111, 117, 112]⟩ : ByteArray) = 6 by kernel_rfl]
  rfl
theorem ref_stdvar (l : List Fl) (q : Fl) : tocsinref16_Fold (⟨#[115, 116, 100, 118, 97, 114]⟩ : ByteArray) l q = bif ((l.length : Int) == 0) then some (some 0, 5) else Option.bind ((tocsinref16_spread l) : Option Fl) fun y => some (tocsinref15_Told y, 0) := by
  unfold tocsinref16_Fold
  simp only [qq_6_0, qq_6_1, qq_6_2, qq_6_3, qq_6_4, qq_6_5, qq_6_6, qq_6_7, qq_6_8, cond_true, cond_false, Bool.true_or, Bool.or_true, Bool.or_false, Bool.false_or, Bool.not_true, Option.bind_assoc, Option.bind_some]
theorem own_stdvar (l : List Fl) (q : Fl) : aggr_Fold (⟨#[115, 116, 100, 118, 97, 114]⟩ : ByteArray) l q = bif ((l.length : Int) == 0) then some (some 0, 5) else Option.bind (tabf_48 7 l q) fun y => some (aggr_told y, 0) := by
  unfold aggr_Fold
  rw [show aggr_fold (⟨#[115, 116, 100, 118, 97, 114]⟩ : ByteArray) = 7 by kernel_rfl]
  rfl
theorem ref_stddev (l : List Fl) (q : Fl) : tocsinref16_Fold (⟨#[115, 116, 100, 100, 101, 118]⟩ : ByteArray) l q = bif ((l.length : Int) == 0) then some (some 0, 5) else Option.bind ((Option.bind (tocsinref16_spread l) fun y => some (math_Sqrt y)) : Option Fl) fun y => some (tocsinref15_Told y, 0) := by
  unfold tocsinref16_Fold
  simp only [qq_7_0, qq_7_1, qq_7_2, qq_7_3, qq_7_4, qq_7_5, qq_7_6, qq_7_7, qq_7_8, cond_true, cond_false, Bool.true_or, Bool.or_true, Bool.or_false, Bool.false_or, Bool.not_true, Option.bind_assoc, Option.bind_some]
theorem own_stddev (l : List Fl) (q : Fl) : aggr_Fold (⟨#[115, 116, 100, 100, 101, 118]⟩ : ByteArray) l q = bif ((l.length : Int) == 0) then some (some 0, 5) else Option.bind (tabf_48 8 l q) fun y => some (aggr_told y, 0) := by
  unfold aggr_Fold
  rw [show aggr_fold (⟨#[115, 116, 100, 100, 101, 118]⟩ : ByteArray) = 8 by kernel_rfl]
  rfl
theorem ref_quantile (l : List Fl) (q : Fl) : tocsinref16_Fold (⟨#[113, 117, 97, 110, 116, 105, 108, 101]⟩ : ByteArray) l q = bif ((l.length : Int) == 0) then some (some 0, 5) else Option.bind ((tocsinref15_Quantile q l) : Option Fl) fun y => some (tocsinref15_Told y, 0) := by
  unfold tocsinref16_Fold
  simp only [qq_8_0, qq_8_1, qq_8_2, qq_8_3, qq_8_4, qq_8_5, qq_8_6, qq_8_7, qq_8_8, cond_true, cond_false, Bool.true_or, Bool.or_true, Bool.or_false, Bool.false_or, Bool.not_true, Option.bind_assoc, Option.bind_some]
theorem own_quantile (l : List Fl) (q : Fl) : aggr_Fold (⟨#[113, 117, 97, 110, 116, 105, 108, 101]⟩ : ByteArray) l q = bif ((l.length : Int) == 0) then some (some 0, 5) else Option.bind (tabf_48 9 l q) fun y => some (aggr_told y, 0) := by
  unfold aggr_Fold
  rw [show aggr_fold (⟨#[113, 117, 97, 110, 116, 105, 108, 101]⟩ : ByteArray) = 9 by kernel_rfl]
  rfl
/-- What values come to is what the document says. -/
theorem Fold_same (w : ByteArray) {ws : List W64} (hl : ws.length < 1073741824) (q : W64) : ∃ x e, aggr_Fold w (FL ws) (some q.1) = some (some x, e) ∧ tocsinref16_Fold w (FL ws) (some q.1) = some (some x, e) := by
  have hL : (FL ws).length < 2147483648 := by rw [len_FL]; omega
  by_cases h0 : (w.toList == (⟨#[115, 117, 109]⟩ : ByteArray).toList) = true
  · obtain rfl := toList_inj.1 h0
    rw [own_sum, ref_sum]
    exact fold_core fun h => by
      obtain ⟨x, hx⟩ := sumE_some h
      exact ⟨x, x, (sum_eq _ hL (some q.1)).trans hx, (rsum_eq _ hL).trans hx, rfl⟩
  by_cases h1 : (w.toList == (⟨#[97, 118, 103]⟩ : ByteArray).toList) = true
  · obtain rfl := toList_inj.1 h1
    rw [own_avg, ref_avg]
    exact fold_core fun h => by
      obtain ⟨x, hx⟩ := sumE_some h
      refine ⟨_, _, (avg_eq _ hL (some q.1)).trans (by unfold avgE; rw [hx]; rfl), by rw [rsum_eq _ hL, hx]; rfl, rfl⟩
  by_cases h2 : (w.toList == (⟨#[109, 105, 110]⟩ : ByteArray).toList) = true
  · obtain rfl := toList_inj.1 h2
    rw [own_min, ref_min]
    exact fold_core fun h => by
      generalize FL ws = l at *
      cases l with
      | nil => exact absurd rfl h
      | cons x l => exact ⟨_, _, min_eq hL (some q.1), best_min hL, rfl⟩
  by_cases h3 : (w.toList == (⟨#[109, 97, 120]⟩ : ByteArray).toList) = true
  · obtain rfl := toList_inj.1 h3
    rw [own_max, ref_max]
    exact fold_core fun h => by
      generalize FL ws = l at *
      cases l with
      | nil => exact absurd rfl h
      | cons x l => exact ⟨_, _, max_eq hL (some q.1), best_max hL, rfl⟩
  by_cases h4 : (w.toList == (⟨#[99, 111, 117, 110, 116]⟩ : ByteArray).toList) = true
  · obtain rfl := toList_inj.1 h4
    rw [own_count, ref_count]
    exact fold_core fun h => ⟨_, _, rfl, rfl, rfl⟩
  by_cases h5 : (w.toList == (⟨#[103, 114, 111, 117, 112]⟩ : ByteArray).toList) = true
  · obtain rfl := toList_inj.1 h5
    rw [own_group, ref_group]
    exact fold_core fun h => ⟨_, _, rfl, rfl, rfl⟩
  by_cases h6 : (w.toList == (⟨#[115, 116, 100, 118, 97, 114]⟩ : ByteArray).toList) = true
  · obtain rfl := toList_inj.1 h6
    rw [own_stdvar, ref_stdvar]
    exact fold_core fun h => by
      obtain ⟨x, hx⟩ := varE_some h
      exact ⟨x, x, (var_eq _ hL (some q.1)).trans hx, (spread_eq _ hL).trans hx, rfl⟩
  by_cases h7 : (w.toList == (⟨#[115, 116, 100, 100, 101, 118]⟩ : ByteArray).toList) = true
  · obtain rfl := toList_inj.1 h7
    rw [own_stddev, ref_stddev]
    exact fold_core fun h => by
      obtain ⟨x, hx⟩ := varE_some h
      refine ⟨math_Sqrt x, math_Sqrt x, ?_, by rw [spread_eq _ hL, hx]; rfl, rfl⟩
      show aggr_values_stddev _ _ = _
      unfold aggr_values_stddev
      rw [var_eq _ hL, hx]; rfl
  by_cases h8 : (w.toList == (⟨#[113, 117, 97, 110, 116, 105, 108, 101]⟩ : ByteArray).toList) = true
  · obtain rfl := toList_inj.1 h8
    rw [own_quantile, ref_quantile]
    exact fold_core fun h => quant_same (fun e => h (by rw [e]; rfl)) hl q
  rw [Bool.not_eq_true] at h0
  rw [Bool.not_eq_true] at h1
  rw [Bool.not_eq_true] at h2
  rw [Bool.not_eq_true] at h3
  rw [Bool.not_eq_true] at h4
  rw [Bool.not_eq_true] at h5
  rw [Bool.not_eq_true] at h6
  rw [Bool.not_eq_true] at h7
  rw [Bool.not_eq_true] at h8
  refine ⟨0, 60, ?_, ?_⟩
  · unfold aggr_Fold aggr_fold
    simp only [h0, h1, h2, h3, h4, h5, h6, h7, h8, cond_false]
    rfl
  · unfold tocsinref16_Fold
    simp only [h0, h1, h2, h3, h4, h5, h6, h7, h8, Bool.or_false, Bool.not_false, cond_true]
end Go.Proofs.YtkjkkimnjpodiaaGreatDoor
