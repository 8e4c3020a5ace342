/- Plain laws: durations, signs, tokens, over lists of bytes; where the document goes another way and comes to the same. -/
import Derived.Test.YtlhpclfkoblnkaaDoorLX2
set_option linter.unusedVariables false
namespace Go.GB
open Go.Lib
theorem gBn_lt (l : List UInt8) (i : Nat) : gB l i < 256 := UInt8.toNat_lt _
theorem gBn_out {l : List UInt8} {i : Nat} (h : l.length ≤ i) : gB l i = 0 := by unfold gB; rw [List.getD_eq_getElem?_getD, List.getElem?_eq_none h]; rfl
theorem gBn_in {l : List UInt8} {i : Nat} (h : 0 < gB l i) : i < l.length := by
  rcases Nat.lt_or_ge i l.length with h1 | h1
  · exact h1
  · rw [gBn_out h1] at h; omega
/-! ### durations -/
def unitsL : List (List UInt8) := [[121], [119], [100], [104], [109], [115], [109, 115]]
def msL : List Nat := [31536000000, 604800000, 86400000, 3600000, 60000, 1000, 1]
def uName (i : Nat) : List UInt8 := unitsL.getD i []
def uMs (i : Nat) : Nat := msL.getD i 0
/-- the unit that is just the letters that stand ahead, from the place 'first' on -/
def unitL (l : List UInt8) (first : Nat) : Option Nat := (List.range 7).find? fun i => decide (first ≤ i) && (l.take (runL lowN l) == uName i)
/-- the document's: a unit that stands ahead -/
def unitR (l : List UInt8) (first : Nat) : Option Nat := (List.range 7).find? fun i => decide (first ≤ i) && ((uName i).isPrefixOf l && !(i == 4 && decide (gB l 1 = 115)))
def maxS : Nat := 1099511627776
def timesL (d : List UInt8) (ms : Nat) : Nat :=
  (let n := d.foldl (fun n c => min (n * 10 + (c.toNat - 48)) (maxS + 1)) 0
   if n > maxS / ms + 1 then maxS + 1 else min (n * ms) (maxS + 1))
def spanGo : Nat → List UInt8 → Nat → Nat → Nat × Nat
  | 0, _, _, sum => (0, sum)
  | f + 1, l, first, sum =>
    if runL digN l = 0 then (0, sum) else match unitL (l.drop (runL digN l)) first with
      | none => (0, sum)
      | some i =>
        (let r := spanGo f (l.drop (runL digN l + (uName i).length)) (i + 1) (min (sum + timesL (l.take (runL digN l)) (uMs i)) (maxS + 1))
         (runL digN l + (uName i).length + r.1, r.2))
def spanRGo : Nat → List UInt8 → Nat → Nat
  | 0, _, _ => 0
  | f + 1, l, first =>
    if runL digN l = 0 then 0 else match unitR (l.drop (runL digN l)) first with
      | none => 0
      | some i => runL digN l + (uName i).length + spanRGo f (l.drop (runL digN l + (uName i).length)) (i + 1)
def spanL (l : List UInt8) : Nat := (spanGo 8 l 0 0).1
def spanR (l : List UInt8) : Nat := spanRGo 8 l 0
theorem pre_one' (x : UInt8) (l : List UInt8) (hx : x.toNat ≠ 0) : [x].isPrefixOf l = decide (gB l 0 = x.toNat) := by
  cases l with
  | nil => simp [gB, List.isPrefixOf]; omega
  | cons y l =>
    simp only [List.isPrefixOf, Bool.and_true, gB, List.getD_cons_zero]
    rw [Bool.eq_iff_iff, beq_iff_eq, decide_eq_true_eq]
    exact ⟨fun h => by rw [h], fun h => (UInt8.toNat_inj.1 h).symm⟩
theorem pre_two' (x y : UInt8) (l : List UInt8) (hx : x.toNat ≠ 0) (hy : y.toNat ≠ 0) : [x, y].isPrefixOf l = (decide (gB l 0 = x.toNat) && decide (gB l 1 = y.toNat)) := by
  cases l with
  | nil => simp [gB, List.isPrefixOf]; omega
  | cons z l =>
    have h1 := pre_one' y l hy
    rw [List.isPrefixOf, h1, show gB (z :: l) 1 = gB l 0 from rfl]
    congr 1
    rw [Bool.eq_iff_iff, beq_iff_eq, decide_eq_true_eq]
    exact ⟨fun h => by rw [h]; rfl, fun h => (UInt8.toNat_inj.1 h).symm⟩
theorem run_one (x : UInt8) (l : List UInt8) (hx : lowN x.toNat = true) : (l.take (runL lowN l) == [x]) = (decide (gB l 0 = x.toNat) && !(lowN (gB l 1))) := by
  rw [Bool.eq_iff_iff, beq_iff_eq]
  cases l with
  | nil =>
    constructor
    · intro h; simp at h
    · intro h
      rw [Bool.and_eq_true] at h
      have h1 : (0 : Nat) = x.toNat := of_decide_eq_true h.1
      rw [← h1] at hx; exact absurd hx (by decide)
  | cons y l =>
    rw [runL_cons]
    by_cases hy : lowN y.toNat = true
    · rw [if_pos hy, List.take_succ_cons]
      have hg : gB (y :: l) 1 = gB l 0 := rfl
      have hg0 : gB (y :: l) 0 = y.toNat := rfl
      rw [hg, hg0]
      simp only [List.cons.injEq, Bool.and_eq_true, decide_eq_true_eq, Bool.not_eq_true']
      refine ⟨fun ⟨h1, h2⟩ => ⟨by rw [h1], ?_⟩, fun ⟨h1, h2⟩ => ⟨UInt8.toNat_inj.1 h1, ?_⟩⟩
      · rw [List.take_eq_nil_iff] at h2
        rcases h2 with h2 | h2
        · rcases Nat.lt_or_ge 0 l.length with h3 | h3
          · have := runL_end (p := lowN) (l := l) (by rw [h2]; exact h3); rwa [h2] at this
          · rw [gBn_out h3]; rfl
        · subst h2; rfl
      · cases l with
        | nil => rfl
        | cons z l => rw [runL_cons, if_neg (by rw [show z.toNat = gB (z :: l) 0 from rfl, h2]; simp)]; rfl
    · rw [if_neg hy]
      constructor
      · intro h; simp at h
      · intro h
        simp only [Bool.and_eq_true, decide_eq_true_eq] at h
        exact absurd (by rw [show y.toNat = gB (y :: l) 0 from rfl, h.1]; exact hx) hy
theorem run_two (x y : UInt8) (l : List UInt8) (hx : lowN x.toNat = true) (hy : lowN y.toNat = true) : (l.take (runL lowN l) == [x, y]) = (decide (gB l 0 = x.toNat) && (decide (gB l 1 = y.toNat) && !(lowN (gB l 2)))) := by
  cases l with
  | nil =>
    rw [Bool.eq_iff_iff]
    constructor
    · intro h; simp at h
    · intro h
      rw [Bool.and_eq_true] at h
      have h1 : (0 : Nat) = x.toNat := of_decide_eq_true h.1
      rw [← h1] at hx; exact absurd hx (by decide)
  | cons z l =>
    have h1 := run_one y l hy
    rw [show gB (z :: l) 1 = gB l 0 from rfl, show gB (z :: l) 2 = gB l 1 from rfl, ← h1, runL_cons]
    by_cases hz : lowN z.toNat = true
    · rw [if_pos hz, List.take_succ_cons]
      show (z == x && (l.take (runL lowN l) == [y])) = _
      congr 1
      rw [Bool.eq_iff_iff, beq_iff_eq, decide_eq_true_eq]
      exact ⟨fun h => by rw [h]; rfl, fun h => UInt8.toNat_inj.1 h⟩
    · rw [if_neg hz]
      have : decide (gB (z :: l) 0 = x.toNat) = false := decide_eq_false (fun h => hz (by rw [show z.toNat = gB (z :: l) 0 from rfl, h]; exact hx))
      rw [this]; rfl
theorem unitL_ex (l : List UInt8) (first : Nat) : unitL l first = [0, 1, 2, 3, 4, 5, 6].find? fun i => decide (first ≤ i) && (l.take (runL lowN l) == uName i) := rfl
theorem unitR_ex (l : List UInt8) (first : Nat) : unitR l first = [0, 1, 2, 3, 4, 5, 6].find? fun i => decide (first ≤ i) && ((uName i).isPrefixOf l && !(i == 4 && decide (gB l 1 = 115))) := rfl
set_option maxHeartbeats 1000000 in
theorem unit_rel (l : List UInt8) (first : Nat) : unitL l first = unitR l first ∨ (unitL l first = none ∧ ∃ i, unitR l first = some i ∧ lowN (gB l (uName i).length) = true) := by
  have a0 := run_one 121 l (by decide); have a1 := run_one 119 l (by decide); have a2 := run_one 100 l (by decide); have a3 := run_one 104 l (by decide)
  have a4 := run_one 109 l (by decide); have a5 := run_one 115 l (by decide); have a6 := run_two 109 115 l (by decide) (by decide)
  have b0 := pre_one' 121 l (by decide); have b1 := pre_one' 119 l (by decide); have b2 := pre_one' 100 l (by decide); have b3 := pre_one' 104 l (by decide)
  have b4 := pre_one' 109 l (by decide); have b5 := pre_one' 115 l (by decide); have b6 := pre_two' 109 115 l (by decide) (by decide)
  rw [unitL_ex, unitR_ex]
  simp only [List.find?, show uName 0 = [121] from rfl, show uName 1 = [119] from rfl, show uName 2 = [100] from rfl, show uName 3 = [104] from rfl, show uName 4 = [109] from rfl, show uName 5 = [115] from rfl, show uName 6 = [109, 115] from rfl,
    a0, a1, a2, a3, a4, a5, a6, b0, b1, b2, b3, b4, b5, b6]
  clear a0 a1 a2 a3 a4 a5 a6 b0 b1 b2 b3 b4 b5 b6
  generalize gB l 0 = c0
  have hs : lowN 115 = true := by decide
  by_cases k0 : c0 = 121
  · subst k0; by_cases hf : first ≤ 0 <;> by_cases hl : lowN (gB l 1) = true <;> simp [hf, hl, uName, unitsL]
  by_cases k1 : c0 = 119
  · subst k1; by_cases hf : first ≤ 1 <;> by_cases hl : lowN (gB l 1) = true <;> simp [hf, hl, uName, unitsL]
  by_cases k2 : c0 = 100
  · subst k2; by_cases hf : first ≤ 2 <;> by_cases hl : lowN (gB l 1) = true <;> simp [hf, hl, uName, unitsL]
  by_cases k3 : c0 = 104
  · subst k3; by_cases hf : first ≤ 3 <;> by_cases hl : lowN (gB l 1) = true <;> simp [hf, hl, uName, unitsL]
  by_cases k5 : c0 = 115
  · subst k5; by_cases hf : first ≤ 5 <;> by_cases hl : lowN (gB l 1) = true <;> simp [hf, hl, uName, unitsL]
  by_cases k4 : c0 = 109
  · subst k4
    by_cases h1 : gB l 1 = 115
    · by_cases hf : first ≤ 6 <;> by_cases hl : lowN (gB l 2) = true <;> simp [hf, hl, h1, hs, uName, unitsL]
    · by_cases hf : first ≤ 4 <;> by_cases hl : lowN (gB l 1) = true <;> simp [hf, hl, h1, uName, unitsL]
  · simp [k0, k1, k2, k3, k4, k5]

theorem uName_len {i : Nat} (h : i < 7) : 1 ≤ (uName i).length ∧ (uName i).length ≤ 2 := by
  have : ∀ j : Fin 7, 1 ≤ (uName j.val).length ∧ (uName j.val).length ≤ 2 := by decide
  exact this ⟨i, h⟩
theorem uName_low {i : Nat} (h : i < 7) {j : Nat} (hj : j < (uName i).length) : lowN (gB (uName i) j) = true := by
  have : ∀ (i : Fin 7) (j : Fin 2), j.val < (uName i.val).length → lowN (gB (uName i.val) j.val) = true := by decide
  have h2 := (uName_len h).2
  exact this ⟨i, h⟩ ⟨j, by omega⟩ hj
theorem unitR_some {l : List UInt8} {first i : Nat} (h : unitR l first = some i) : i < 7 ∧ first ≤ i ∧ (uName i) <+: l := by
  unfold unitR at h
  have h1 := List.mem_of_find?_eq_some h
  have h2 := List.find?_some h
  simp only [Bool.and_eq_true, decide_eq_true_eq] at h2
  exact ⟨List.mem_range.1 h1, h2.1, List.isPrefixOf_iff_prefix.1 h2.2.1⟩
theorem gB_prefix {p l : List UInt8} (h : p <+: l) {i : Nat} (hi : i < p.length) : gB l i = gB p i := by
  obtain ⟨t, rfl⟩ := h
  simp [gB, List.getD, List.getElem?_append_left hi]
def identN (c : Nat) : Bool := letN c || digN c || decide (c = 46)
theorem low_ident {c : Nat} (h : lowN c = true) : identN c = true := by unfold lowN at h; unfold identN letN; simp at h ⊢; omega
theorem low_dig {c : Nat} (h : lowN c = true) : ¬ digN c = true := by unfold lowN at h; unfold digN; simp at h ⊢; omega
theorem dig_ident {c : Nat} (h : digN c = true) : identN c = true := by unfold identN; simp [h]
theorem unit_within {l : List UInt8} {first i : Nat} (h : unitR l first = some i) {j : Nat} (hj : j < (uName i).length) : identN (gB l j) = true := by
  obtain ⟨h1, _, h3⟩ := unitR_some h
  rw [gB_prefix h3 hj]; exact low_ident (uName_low h1 hj)
theorem span_rel : ∀ (f : Nat) (l : List UInt8) (first sum : Nat), (spanGo f l first sum).1 = spanRGo f l first ∨ ((spanGo f l first sum).1 < spanRGo f l first ∧ ∀ i, i ≤ spanRGo f l first → identN (gB l i) = true)
  | 0, l, first, sum => .inl rfl
  | f + 1, l, first, sum => by
    unfold spanGo spanRGo
    by_cases hd : runL digN l = 0
    · rw [if_pos hd, if_pos hd]; exact .inl rfl
    rw [if_neg hd, if_neg hd]
    have hdi : ∀ i, i < runL digN l → identN (gB l i) = true := fun i hi => dig_ident (runL_in hi).2
    rcases unit_rel (l.drop (runL digN l)) first with h | ⟨h, i, hR, hlow⟩
    · rw [h]
      cases hR : unitR (l.drop (runL digN l)) first with
      | none => exact .inl rfl
      | some i =>
        simp only
        have hu : ∀ j, j < (uName i).length → identN (gB l (runL digN l + j)) = true := fun j hj => by rw [← gB_drop]; exact unit_within hR hj
        rcases span_rel f (l.drop (runL digN l + (uName i).length)) (i + 1) (min (sum + timesL (l.take (runL digN l)) (uMs i)) (maxS + 1)) with e | ⟨e1, e2⟩
        · exact .inl (by rw [e])
        · refine .inr ⟨by omega, fun j hj => ?_⟩
          rcases Nat.lt_or_ge j (runL digN l) with h1 | h1
          · exact hdi j h1
          rcases Nat.lt_or_ge j (runL digN l + (uName i).length) with h2 | h2
          · have := hu (j - runL digN l) (by omega); rwa [show runL digN l + (j - runL digN l) = j from by omega] at this
          · have := e2 (j - (runL digN l + (uName i).length)) (by omega)
            rw [gB_drop] at this; rwa [show runL digN l + (uName i).length + (j - (runL digN l + (uName i).length)) = j from by omega] at this
    · rw [h, hR]
      simp only
      have hlow' : lowN (gB l (runL digN l + (uName i).length)) = true := by rw [← gB_drop]; exact hlow
      have h0 : spanRGo f (l.drop (runL digN l + (uName i).length)) (i + 1) = 0 := by
        cases f with
        | zero => rfl
        | succ f =>
          unfold spanRGo
          have : runL digN (l.drop (runL digN l + (uName i).length)) = 0 := by
            rcases Nat.lt_or_ge (runL digN l + (uName i).length) l.length with hl | hl
            · rw [runL_step hl, if_neg (low_dig hlow')]
            · exact runL_out hl
          rw [if_pos this]
      rw [h0]
      refine .inr ⟨by omega, fun j hj => ?_⟩
      rcases Nat.lt_or_ge j (runL digN l) with h1 | h1
      · exact hdi j h1
      rcases Nat.lt_or_ge j (runL digN l + (uName i).length) with h2 | h2
      · have := unit_within hR (j := j - runL digN l) (by omega)
        rw [gB_drop] at this; rwa [show runL digN l + (j - runL digN l) = j from by omega] at this
      · rw [show j = runL digN l + (uName i).length from by omega]; exact low_ident hlow'
theorem runL_le' (p : Nat → Bool) (l : List UInt8) : runL p l ≤ l.length := runL_le p l
theorem unitL_some {l : List UInt8} {first i : Nat} (h : unitL l first = some i) : i < 7 ∧ first ≤ i ∧ l.take (runL lowN l) = uName i := by
  unfold unitL at h
  have h1 := List.mem_of_find?_eq_some h
  have h2 := List.find?_some h
  simp only [Bool.and_eq_true, decide_eq_true_eq, beq_iff_eq] at h2
  exact ⟨List.mem_range.1 h1, h2.1, h2.2⟩
theorem unitL_run {l : List UInt8} {first i : Nat} (h : unitL l first = some i) : runL lowN l = (uName i).length := by
  have := congrArg List.length (unitL_some h).2.2
  rw [List.length_take, Nat.min_eq_left (runL_le _ _)] at this
  exact this
theorem spanRGo_le : ∀ (f : Nat) (l : List UInt8) (first : Nat), spanRGo f l first ≤ l.length
  | 0, l, first => Nat.zero_le _
  | f + 1, l, first => by
    unfold spanRGo
    split
    · omega
    · rename_i hd
      cases hR : unitR (l.drop (runL digN l)) first with
      | none => exact Nat.zero_le _
      | some i =>
        simp only
        have h1 := (unitR_some hR).2.2.length_le
        have h2 := spanRGo_le f (l.drop (runL digN l + (uName i).length)) (i + 1)
        have h3 := runL_le digN l
        rw [List.length_drop] at h1 h2
        omega
theorem spanL_le (l : List UInt8) : spanL l ≤ l.length := by
  have h1 := spanRGo_le 8 l 0
  rcases span_rel 8 l 0 0 with h | ⟨h, _⟩
  · unfold spanL; omega
  · unfold spanL; omega
theorem expK_le {l : List UInt8} {n : Nat} (h : n < l.length) : n + 1 ≤ expK l n ∧ expK l n ≤ l.length := by
  unfold expK
  split
  · have := gBn_in (l := l) (i := n + 1) (by omega); omega
  · omega
theorem expL_le {l : List UInt8} {n : Nat} (hn : n ≤ l.length) : n ≤ expL l n ∧ expL l n ≤ l.length := by
  unfold expL
  split
  · rename_i he
    have hi := gBn_in (l := l) (i := n) (by omega)
    have hk := expK_le hi
    have := runL_le digN (l.drop (expK l n)); rw [List.length_drop] at this
    split <;> omega
  · omega
theorem numA_le {l : List UInt8} {a : Nat} (ha : a ≤ l.length) : numA l a ≤ l.length := by
  unfold numA
  split
  · have hi := gBn_in (l := l) (i := a) (by omega)
    have hB := runL_le digN (l.drop (a + 1)); rw [List.length_drop] at hB
    split <;> omega
  · omega
theorem numL_le (l : List UInt8) : numL l ≤ l.length := by
  unfold numL
  split
  · rename_i h
    have hi := gBn_in (l := l) (i := 1) (by omega)
    have := runL_le hexN (l.drop 2); rw [List.length_drop] at this
    omega
  · split
    · omega
    · exact (expL_le (numA_le (runL_le _ _))).2
/-! ### one token -/
def signsL : List (List UInt8) := [[33, 61], [61, 126], [33, 126], [61, 61], [62, 61], [60, 61], [40], [41], [123], [125], [91], [93], [44], [61], [43], [45], [42], [47], [37], [94], [62], [60]]
def signL (l : List UInt8) : Option (List UInt8) := signsL.find? fun x => x.isPrefixOf l
def numTok (l : List UInt8) (m : Nat) : Option (Nat × List UInt8 × Nat) :=
  (let e := if m > numL l then m else numL l
   if e = 0 ∨ identN (gB l e) = true then none else some (if m > numL l then 3 else 2, l.take e, e))
theorem numTok_rel (l : List UInt8) : numTok l (spanL l) = numTok l (spanR l) := by
  rcases span_rel 8 l 0 0 with h | ⟨h1, h2⟩
  · rw [show spanL l = spanR l from h]
  · have h1' : spanL l < spanR l := h1
    have h2' : ∀ i, i ≤ spanR l → identN (gB l i) = true := h2
    unfold numTok
    by_cases hn : spanR l > numL l
    · have : ∀ X : Option (Nat × List UInt8 × Nat), (if (if spanL l > numL l then spanL l else numL l) = 0 ∨ identN (gB l (if spanL l > numL l then spanL l else numL l)) = true then none else X) = none := fun X => by
        rw [if_pos]
        right
        split
        · exact h2' _ (by omega)
        · exact h2' _ (by omega)
      simp only [this, if_pos hn]
      rw [if_pos (Or.inr (h2' _ (Nat.le_refl _)))]
    · simp only [if_neg hn, if_neg (show ¬ spanL l > numL l by omega)]
theorem numTok_some {l : List UInt8} {m k n : Nat} {t : List UInt8} (hm : m ≤ l.length) (h : numTok l m = some (k, t, n)) : 1 ≤ n ∧ n ≤ l.length ∧ t = l.take n ∧ identN (gB l n) = false ∧ n = (if m > numL l then m else numL l) ∧ k = (if m > numL l then 3 else 2) := by
  unfold numTok at h
  simp only at h
  have h1 := numL_le l
  generalize he : (if m > numL l then m else numL l) = e at h
  have hel : e ≤ l.length := by rw [← he]; split <;> omega
  by_cases hc : e = 0 ∨ identN (gB l e) = true
  · rw [if_pos hc] at h; cases h
  · rw [if_neg hc] at h
    simp only [Option.some.injEq, Prod.mk.injEq] at h
    obtain ⟨h2, h3, h4⟩ := h
    rw [not_or, Bool.not_eq_true] at hc
    subst h4
    exact ⟨by omega, hel, h3.symm, hc.2, rfl, h2.symm⟩
/-- the token that stands ahead: its kind, its text, how many bytes; none: there is none -/
def oneL (l : List UInt8) : Option (Nat × List UInt8 × Nat) :=
  if letN (gB l 0) = true then some (1, l.take (runL (fun c => letN c || digN c) l), runL (fun c => letN c || digN c) l)
  else if digN (gB l 0) = true ∨ gB l 0 = 46 then numTok l (spanL l)
  else if gB l 0 = 34 ∨ gB l 0 = 39 then (textP (gB l 0) (l.drop 1)).map fun o => (4, o.1, o.2 + 1)
  else (signL l).map fun x => (5, x, x.length)
def blankN (c : Nat) : Bool := decide (c = 32) || decide (c = 9) || decide (c = 10) || decide (c = 13)
def lineN (c : Nat) : Bool := decide (c ≠ 10)
/-- blanks and remarks that stand ahead -/
def skipL (l : List UInt8) : Nat :=
  if hl : l = [] then 0
  else if blankN (gB l 0) = true then 1 + skipL (l.drop 1)
  else if gB l 0 = 35 then (1 + runL lineN (l.drop 1)) + skipL (l.drop (1 + runL lineN (l.drop 1)))
  else 0
termination_by l.length
decreasing_by all_goals (have := List.length_pos_iff.2 hl; rw [List.length_drop]; omega)
theorem skipL_le (l : List UInt8) : skipL l ≤ l.length := by
  induction hm : l.length using Nat.strongRecOn generalizing l with
  | _ m ih =>
    rw [skipL]
    split
    · omega
    rename_i hl
    have hp := List.length_pos_iff.2 hl
    split
    · have := ih _ (by rw [List.length_drop]; omega) (l.drop 1) rfl; rw [List.length_drop] at this; omega
    split
    · have h1 := runL_le lineN (l.drop 1)
      have := ih _ (by rw [List.length_drop]; omega) (l.drop (1 + runL lineN (l.drop 1))) rfl
      rw [List.length_drop] at this h1; omega
    · omega
structure Tk3 where
  kind : Nat
  text : List UInt8
  at_ : Nat
theorem textP_pos {q : Nat} (hq : q < 128) {l : List UInt8} {o : List UInt8} {n : Nat} (h : textP q l = some (o, n)) : 1 ≤ n ∧ n ≤ l.length := by
  rw [textP_eq hq] at h
  cases hr : textR q l with
  | none => rw [hr] at h; cases h
  | some on =>
    obtain ⟨o', n'⟩ := on
    rw [hr] at h
    simp only at h
    split at h
    · cases h; exact textR_pos hr
    · cases h
theorem oneL_pos {l : List UInt8} {k : Nat} {t : List UInt8} {n : Nat} (h : oneL l = some (k, t, n)) : 1 ≤ n ∧ n ≤ l.length := by
  unfold oneL at h
  split at h
  · rename_i hc
    cases h
    refine ⟨?_, runL_le _ _⟩
    have hi := gBn_in (l := l) (i := 0) (by unfold letN at hc; simp at hc; omega)
    rw [show l = l.drop 0 from rfl, runL_step hi, if_pos (by rw [hc]; rfl)]; omega
  split at h
  · exact ⟨(numTok_some (spanL_le l) h).1, (numTok_some (spanL_le l) h).2.1⟩
  split at h
  · rename_i hq
    obtain ⟨⟨o, n'⟩, h1, h2⟩ := Option.map_eq_some_iff.1 h
    cases h2
    have := textP_pos (by omega) h1
    rw [List.length_drop] at this
    omega
  · obtain ⟨x, h1, h2⟩ := Option.map_eq_some_iff.1 h
    cases h2
    have h3 := List.mem_of_find?_eq_some h1
    have h4 := List.find?_some h1
    have h5 := (List.isPrefixOf_iff_prefix.1 h4).length_le
    have : ∀ x ∈ signsL, 1 ≤ x.length := by decide
    exact ⟨this _ h3, h5⟩
/-- the tokens of what is left, from a place on; inr: the place at fault -/
def toksL (l : List UInt8) (a : Nat) : List Tk3 ⊕ Nat :=
  if l.drop (skipL l) = [] then .inl []
  else match ho : oneL (l.drop (skipL l)) with
    | none => .inr (a + skipL l)
    | some (k, t, n) => match toksL (l.drop (skipL l + n)) (a + skipL l + n) with
      | .inl r => .inl (⟨k, t, a + skipL l⟩ :: r)
      | .inr p => .inr p
termination_by l.length
decreasing_by (have := oneL_pos ho; rw [List.length_drop] at this ⊢; omega)
theorem toksL_end {l : List UInt8} {a : Nat} (h : l.drop (skipL l) = []) : toksL l a = .inl [] := by rw [toksL, if_pos h]
theorem toksL_bad {l : List UInt8} {a : Nat} (h : l.drop (skipL l) ≠ []) (ho : oneL (l.drop (skipL l)) = none) : toksL l a = .inr (a + skipL l) := by
  rw [toksL, if_neg h]
  split
  · rfl
  · rename_i h1; rw [ho] at h1; cases h1
theorem toksL_cons {l : List UInt8} {a k n : Nat} {t : List UInt8} (h : l.drop (skipL l) ≠ []) (ho : oneL (l.drop (skipL l)) = some (k, t, n)) :
    toksL l a = match toksL (l.drop (skipL l + n)) (a + skipL l + n) with
      | .inl r => .inl (⟨k, t, a + skipL l⟩ :: r)
      | .inr p => .inr p := by
  rw [toksL, if_neg h]
  split
  · rename_i h1; rw [ho] at h1; cases h1
  · rename_i h1; rw [ho] at h1; cases h1; rfl
theorem toksL_len : ∀ (l : List UInt8) (a : Nat) (r : List Tk3), toksL l a = .inl r → r.length ≤ l.length := by
  intro l
  induction hm : l.length using Nat.strongRecOn generalizing l with
  | _ m ih =>
    intro a r h
    rw [toksL] at h
    split at h
    · cases h; simp
    split at h
    · cases h
    · rename_i k t n ho
      have hp := oneL_pos ho
      rw [List.length_drop] at hp
      split at h
      · rename_i r' hr
        cases h
        have := ih _ (by rw [List.length_drop]; omega) (l.drop (skipL l + n)) rfl _ _ hr
        rw [List.length_drop] at this
        simp only [List.length_cons]; omega
      · cases h
end Go.GB
