import Derived.Test.YtlhpclfkoblnkaaDoorLX1
import Derived.Lib.ValidLaws
set_option linter.unusedVariables false
namespace Go.GB
open Go.Lib
theorem take_getD {a b : List UInt8} {w i : Nat} (h : b.take w = a.take w) (hi : i < w) : b.getD i 0 = a.getD i 0 := by
  have h1 : (b.take w)[i]? = (a.take w)[i]? := by rw [h]
  rw [List.getElem?_take, List.getElem?_take, if_pos hi, if_pos hi] at h1
  simp [List.getD, h1]
theorem take_len {a b : List UInt8} {w : Nat} (h : b.take w = a.take w) (hl : w ≤ a.length) : w ≤ b.length := by
  have := congrArg List.length h
  simp at this; omega
set_option maxRecDepth 100000 in
/-- a rune that is right is read of its own bytes alone -/
theorem decode_ext {a b : List UInt8} (ha : ¬ ((decodeL a).1 = 65533 ∧ (decodeL a).2 = 1)) (hl : (decodeL a).2 ≤ a.length) (h : b.take (decodeL a).2 = a.take (decodeL a).2) : decodeL b = decodeL a := by
  have hb := take_len h hl
  rw [decodeL_N a] at *
  rw [decodeL_N b]
  rcases decodeN_shape a.length (a.getD 0 0).toNat (a.getD 1 0).toNat (a.getD 2 0).toNat (a.getD 3 0).toNat with ⟨c, e⟩ | ⟨c1, c2, c3, cv, e⟩ | ⟨c1, c2, c3, c4, cv, cs, e⟩ | ⟨c1, c2, c3, c4, c5, cv, cw, e⟩ | e
  · rw [e] at h hb ⊢
    rw [take_getD h (i := 0) (by omega)]
    unfold decodeN; rw [if_pos c]
  · rw [e] at h hb ⊢
    rw [take_getD h (i := 0) (by omega), take_getD h (i := 1) (by omega)]
    dsimp only at hb
    unfold decodeN
    rw [if_neg (by omega), if_pos ⟨c1, by omega, c3⟩, if_pos (by omega)]
  · rw [e] at h hb ⊢
    rw [take_getD h (i := 0) (by omega), take_getD h (i := 1) (by omega), take_getD h (i := 2) (by omega)]
    dsimp only at hb
    unfold decodeN
    rw [if_neg (by omega), if_neg (by omega), if_pos ⟨c1, ⟨by omega, c3⟩, by omega, c4⟩, if_pos ⟨by omega, by omega⟩]
  · rw [e] at h hb ⊢
    rw [take_getD h (i := 0) (by omega), take_getD h (i := 1) (by omega), take_getD h (i := 2) (by omega), take_getD h (i := 3) (by omega)]
    dsimp only at hb
    unfold decodeN
    rw [if_neg (by omega), if_neg (by omega), if_neg (by omega), if_pos ⟨c1, ⟨by omega, c3⟩, ⟨by omega, c4⟩, by omega, c5⟩, if_pos ⟨by omega, by omega⟩]
  · rw [e] at ha; exact absurd ⟨rfl, rfl⟩ ha
/-- the bytes of a right rune behind its first one are from 128 on; so is the first one, if there are more -/
theorem decode_high {l : List UInt8} {i : Nat} (hi : i < (decodeL l).2) (h1 : (decodeL l).2 ≠ 1) : 128 ≤ gB l i := by
  unfold gB
  rw [decodeL_N l] at *
  rcases decodeN_shape l.length (l.getD 0 0).toNat (l.getD 1 0).toNat (l.getD 2 0).toNat (l.getD 3 0).toNat with ⟨c, e⟩ | ⟨c1, c2, c3, cv, e⟩ | ⟨c1, c2, c3, c4, cv, cs, e⟩ | ⟨c1, c2, c3, c4, c5, cv, cw, e⟩ | e
  all_goals (rw [e] at hi h1; dsimp only at hi h1)
  · omega
  · rcases (by omega : i = 0 ∨ i = 1) with rfl | rfl <;> omega
  · rcases (by omega : i = 0 ∨ i = 1 ∨ i = 2) with rfl | rfl | rfl <;> omega
  · rcases (by omega : i = 0 ∨ i = 1 ∨ i = 2 ∨ i = 3) with rfl | rfl | rfl | rfl <;> omega
  · omega
theorem decode_ascii {l : List UInt8} (h : gB l 0 < 128) : decodeL l = (gB l 0, 1) := by
  rw [decodeL_N, decodeN, if_pos (show (l.getD 0 0).toNat < 128 from h)]; rfl
theorem decode_big {l : List UInt8} (h : 128 ≤ gB l 0) : 128 ≤ (decodeL l).1 := by
  unfold gB at h
  rw [decodeL_N]
  rcases decodeN_shape l.length (l.getD 0 0).toNat (l.getD 1 0).toNat (l.getD 2 0).toNat (l.getD 3 0).toNat with ⟨c, e⟩ | ⟨c1, c2, c3, cv, e⟩ | ⟨c1, c2, c3, c4, cv, cs, e⟩ | ⟨c1, c2, c3, c4, c5, cv, cw, e⟩ | e
  all_goals (rw [e]; dsimp only; omega)
theorem decode_one {l : List UInt8} (h : 128 ≤ gB l 0) (h1 : (decodeL l).2 = 1) : (decodeL l).1 = 65533 := by
  unfold gB at h
  rw [decodeL_N] at *
  rcases decodeN_shape l.length (l.getD 0 0).toNat (l.getD 1 0).toNat (l.getD 2 0).toNat (l.getD 3 0).toNat with ⟨c, e⟩ | ⟨c1, c2, c3, cv, e⟩ | ⟨c1, c2, c3, c4, cv, cs, e⟩ | ⟨c1, c2, c3, c4, c5, cv, cw, e⟩ | e
  all_goals (rw [e] at h1 ⊢)
  all_goals (dsimp only at h1 ⊢; try omega)
theorem validD_low {l : List UInt8} (hl : l ≠ []) (h : gB l 0 < 128) : validD l = validD (l.drop 1) := by
  obtain ⟨c, t, rfl⟩ := List.exists_cons_of_ne_nil hl
  exact validD_cons c t h
theorem validD_rune {l x : List UInt8} (hv : ¬ ((decodeL l).1 = 65533 ∧ (decodeL l).2 = 1)) (hl : l ≠ []) : validD (l.take (decodeL l).2 ++ x) = validD x := by
  have hle := decodeL_le l hl
  have hw := decodeL_width l
  have e : (l.take (decodeL l).2 ++ x).take (decodeL l).2 = l.take (decodeL l).2 := by rw [List.take_left' (by rw [List.length_take]; omega)]
  have hd := decode_ext hv hle e
  rw [validD_step _ (by intro h; have := congrArg List.length h; rw [List.length_append, List.length_take, List.length_nil] at this; have := List.length_pos_iff.2 hl; omega), hd, if_neg hv, List.drop_left' (by rw [List.length_take]; omega)]

/-! ### texts in quotes -/
def hexV (c : Nat) : Nat := if c ≤ 57 then c - 48 else if c ≤ 70 then c - 55 else c - 87
def escL (l : List UInt8) : Option (UInt8 × Nat) :=
  if gB l 0 = 110 then some (10, 1) else if gB l 0 = 92 ∨ gB l 0 = 34 ∨ gB l 0 = 39 then some (l.getD 0 0, 1) else if gB l 0 = 116 then some (9, 1) else if gB l 0 = 114 then some (13, 1)
  else if gB l 0 = 120 ∧ hexN (gB l 1) = true ∧ hexN (gB l 2) = true ∧ gB l 1 ≤ 55 then some (UInt8.ofNat (16 * hexV (gB l 1) + hexV (gB l 2)), 3) else none
theorem escL_low {l : List UInt8} {x : UInt8} {k : Nat} (h : escL l = some (x, k)) : x.toNat < 128 ∧ 1 ≤ k ∧ k ≤ l.length ∧ ∀ i, i < k → gB l i < 128 := by
  have g0 : ∀ i, 0 < gB l i → i < l.length := fun i hi => by
    rcases Nat.lt_or_ge i l.length with h | h
    · exact h
    · unfold gB at hi; rw [List.getD_eq_getElem?_getD, List.getElem?_eq_none h] at hi; simp at hi
  have hx : ∀ c, hexN c = true → 48 ≤ c ∧ c ≤ 102 ∧ hexV c < 16 := by
    intro c hc
    unfold hexN digN at hc
    unfold hexV
    simp only [Bool.or_eq_true, decide_eq_true_eq] at hc
    split <;> (try split) <;> omega
  unfold escL at h
  split at h
  · cases h; exact ⟨by decide, by omega, g0 0 (by omega), fun i hi => by
      have h00 : i = 0 := by omega
      rw [h00]; omega⟩
  split at h
  · cases h
    rename_i h2
    exact ⟨by show gB l 0 < 128; omega, by omega, g0 0 (by omega), fun i hi => by
      have h00 : i = 0 := by omega
      rw [h00]; omega⟩
  split at h
  · cases h; exact ⟨by decide, by omega, g0 0 (by omega), fun i hi => by
      have h00 : i = 0 := by omega
      rw [h00]; omega⟩
  split at h
  · cases h; exact ⟨by decide, by omega, g0 0 (by omega), fun i hi => by
      have h00 : i = 0 := by omega
      rw [h00]; omega⟩
  split at h
  · cases h
    rename_i h2
    obtain ⟨h3, h4, h5, h6⟩ := h2
    have a1 := hx _ h4
    have a2 := hx _ h5
    have a3 : hexV (gB l 1) < 8 := by unfold hexV; split <;> omega
    refine ⟨?_, by omega, g0 2 (by omega), fun i hi => ?_⟩
    · rw [UInt8.toNat_ofNat']; omega
    · rcases (by omega : i = 0 ∨ i = 1 ∨ i = 2) with rfl | rfl | rfl <;> omega
  · cases h
def textR (q : Nat) (l : List UInt8) : Option (List UInt8 × Nat) :=
  if hl : l = [] then none
  else if gB l 0 = q then some ([], 1)
  else if gB l 0 = 10 then none
  else if gB l 0 = 92 then match escL (l.drop 1) with
    | none => none
    | some (x, k) => (textR q (l.drop (1 + k))).map fun o => (x :: o.1, o.2 + (1 + k))
  else (textR q (l.drop 1)).map fun o => (l.getD 0 0 :: o.1, o.2 + 1)
termination_by l.length
decreasing_by all_goals (have := List.length_pos_iff.2 hl; rw [List.length_drop]; omega)
/-- the same, rune by rune -/
def textP (q : Nat) (l : List UInt8) : Option (List UInt8 × Nat) :=
  if hl : l = [] then none
  else if (decodeL l).1 = q then some ([], 1)
  else if ((decodeL l).1 = 65533 ∧ (decodeL l).2 = 1) ∨ (decodeL l).1 = 10 then none
  else if (decodeL l).1 = 92 then match escL (l.drop 1) with
    | none => none
    | some (x, k) => (textP q (l.drop (1 + k))).map fun o => (x :: o.1, o.2 + (1 + k))
  else (textP q (l.drop (decodeL l).2)).map fun o => (l.take (decodeL l).2 ++ o.1, o.2 + (decodeL l).2)
termination_by l.length
decreasing_by all_goals (have := List.length_pos_iff.2 hl; have := decodeL_width l; rw [List.length_drop]; omega)
theorem textR_pos {q : Nat} {l : List UInt8} {o : List UInt8} {n : Nat} (h : textR q l = some (o, n)) : 1 ≤ n ∧ n ≤ l.length := by
  induction hm : l.length using Nat.strongRecOn generalizing l o n with
  | _ m ih =>
    rw [textR] at h
    split at h
    · cases h
    rename_i hl
    have hp := List.length_pos_iff.2 hl
    split at h
    · cases h; omega
    split at h
    · cases h
    split at h
    · split at h
      · cases h
      · rename_i x k he
        obtain ⟨⟨o', n'⟩, h1, h2⟩ := Option.map_eq_some_iff.1 h
        cases h2
        have hk := escL_low he
        have := ih _ (by rw [List.length_drop]; omega) h1 rfl
        rw [List.length_drop] at this hk
        omega
    · obtain ⟨⟨o', n'⟩, h1, h2⟩ := Option.map_eq_some_iff.1 h
      cases h2
      have := ih _ (by rw [List.length_drop]; omega) h1 rfl
      rw [List.length_drop] at this
      omega
/-- bytes from 128 on are taken one by one -/
theorem textR_high {q : Nat} (hq : q < 128) : ∀ (w : Nat) (l : List UInt8), w ≤ l.length → (∀ i, i < w → 128 ≤ gB l i) → textR q l = (textR q (l.drop w)).map fun o => (l.take w ++ o.1, o.2 + w)
  | 0, l, _, _ => by simp
  | w + 1, l, hl, h => by
    have h0 := h 0 (by omega)
    have hne : l ≠ [] := by intro e; subst e; simp at hl
    rw [textR, dif_neg hne, if_neg (by omega), if_neg (by omega), if_neg (by omega)]
    have e := textR_high hq w (l.drop 1) (by rw [List.length_drop]; omega) (fun i hi => by rw [gB_drop]; exact h _ (by omega))
    rw [e, List.drop_drop, Option.map_map]
    obtain ⟨c, t, rfl⟩ := List.exists_cons_of_ne_nil hne
    simp only [List.drop_succ_cons, List.drop_zero, List.take_succ_cons, Nat.add_comm 1 w]
    refine congrArg (fun f => Option.map f (textR q (List.drop w t))) ?_
    funext o
    show ((c :: t).getD 0 0 :: (List.take w t ++ o.1), o.2 + w + 1) = (c :: List.take w t ++ o.1, o.2 + (w + 1))
    rw [Nat.add_assoc]; rfl
theorem textP_eq {q : Nat} (hq : q < 128) (l : List UInt8) : textP q l = match textR q l with
    | none => none
    | some (o, n) => if validD o = true ∧ validD (l.take (n - 1)) = true then some (o, n) else none := by
  induction hm : l.length using Nat.strongRecOn generalizing l with
  | _ m ih =>
    by_cases hl : l = []
    · subst hl; rw [textP, textR]; simp
    have hp := List.length_pos_iff.2 hl
    by_cases h0 : gB l 0 < 128
    · rw [textP, textR, dif_neg hl, dif_neg hl, decode_ascii h0]
      by_cases hc : gB l 0 = q
      · rw [if_pos hc, if_pos hc]; simp [validD_nil]
      rw [if_neg hc, if_neg hc]
      by_cases h10 : gB l 0 = 10
      · rw [if_pos (Or.inr h10), if_pos h10]
      have h11 : ¬ ((gB l 0 = 65533 ∧ (1 : Nat) = 1) ∨ gB l 0 = 10) := by omega
      rw [if_neg h11, if_neg h10]
      by_cases h92 : gB l 0 = 92
      · rw [if_pos h92, if_pos h92]
        cases he : escL (l.drop 1) with
        | none => rfl
        | some xk =>
          obtain ⟨x, k⟩ := xk
          simp only
          have hk := escL_low he
          rw [List.length_drop] at hk
          rw [ih _ (by rw [List.length_drop]; omega) (l.drop (1 + k)) rfl]
          cases hr : textR q (l.drop (1 + k)) with
          | none => rfl
          | some on =>
            obtain ⟨o, n⟩ := on
            have hn := textR_pos hr
            rw [List.length_drop] at hn
            simp only [Option.map_some]
            have e1 : validD (x :: o) = validD o := validD_cons x o hk.1
            have e2 : validD (l.take (n + (1 + k) - 1)) = validD ((l.drop (1 + k)).take (n - 1)) := by
              rw [validD_ascii (1 + k) (l.take (n + (1 + k) - 1)) (fun b hb => ?_)]
              · rw [List.drop_take, show n + (1 + k) - 1 - (1 + k) = n - 1 from by omega]
              · rw [List.take_take] at hb
                obtain ⟨i, hi, rfl⟩ := List.getElem_of_mem hb
                rw [List.length_take] at hi
                have hg : (List.take (min (1 + k) (n + (1 + k) - 1)) l)[i].toNat = gB l i := by
                  rw [List.getElem_take]; simp [gB, List.getD, List.getElem?_eq_getElem (show i < l.length by omega)]
                rw [hg]
                rcases Nat.eq_zero_or_pos i with rfl | hip
                · exact h0
                · have := hk.2.2.2 (i - 1) (by omega)
                  rw [gB_drop, show 1 + (i - 1) = i from by omega] at this
                  exact this
            rw [e1, e2]
            split <;> rfl
      · rw [if_neg h92, if_neg h92]
        rw [ih _ (by rw [List.length_drop]; omega) (l.drop 1) rfl]
        cases hr : textR q (l.drop 1) with
        | none => rfl
        | some on =>
          obtain ⟨o, n⟩ := on
          have hn := textR_pos hr
          rw [List.length_drop] at hn
          simp only [Option.map_some]
          have e1 : validD (l.getD 0 0 :: o) = validD o := validD_cons _ o h0
          have e2 : validD (l.take (n + 1 - 1)) = validD ((l.drop 1).take (n - 1)) := by
            have g0 : gB (l.take (n + 1 - 1)) 0 = gB l 0 := by
              unfold gB; rw [List.getD_eq_getElem?_getD, List.getElem?_take, if_pos (by omega), List.getD_eq_getElem?_getD]
            rw [validD_low (by intro h; have := congrArg List.length h; rw [List.length_take, List.length_nil] at this; omega) (by rw [g0]; exact h0), List.drop_take]
            rfl
          rw [e1, e2]
          obtain ⟨c, t, rfl⟩ := List.exists_cons_of_ne_nil hl
          simp only [List.take_succ_cons, List.take_zero, List.singleton_append, List.cons_append, List.nil_append]
          split <;> rfl
    · have h0' : 128 ≤ gB l 0 := by omega
      have hbig := decode_big h0'
      rw [textP, dif_neg hl, if_neg (by omega)]
      by_cases hv : (decodeL l).1 = 65533 ∧ (decodeL l).2 = 1
      · rw [if_pos (.inl hv)]
        cases hr : textR q l with
        | none => rfl
        | some on =>
          obtain ⟨o, n⟩ := on
          have hn := textR_pos hr
          have hn2 : 2 ≤ n := by
            rw [textR_high hq 1 l (by omega) (fun i hi => by
      have h00 : i = 0 := by omega
      rw [h00]; exact h0')] at hr
            obtain ⟨⟨o', n'⟩, h1, h2⟩ := Option.map_eq_some_iff.1 hr
            cases h2
            have := textR_pos h1
            omega
          have : validD (l.take (n - 1)) = false := by
            have hne : l.take (n - 1) ≠ [] := by intro h; have := congrArg List.length h; rw [List.length_take, List.length_nil] at this; omega
            rw [validD_step _ hne]
            by_cases hd : (decodeL (l.take (n - 1))).1 = 65533 ∧ (decodeL (l.take (n - 1))).2 = 1
            · rw [if_pos hd]
            · have hle := decodeL_le _ hne
              have hle2 := hle
              rw [List.length_take] at hle2
              have := decode_ext (b := l) hd hle (by rw [List.take_take, Nat.min_eq_left (by omega)])
              rw [this] at hv; exact absurd hv hd
          simp [this]
      · rw [if_neg (by omega), if_neg (by omega)]
        have h1 : (decodeL l).2 ≠ 1 := fun h => hv ⟨decode_one h0' h, h⟩
        have hw := decodeL_width l
        have hle := decodeL_le l hl
        rw [textR_high hq (decodeL l).2 l hle (fun i hi => decode_high hi h1), ih _ (by rw [List.length_drop]; omega) (l.drop (decodeL l).2) rfl]
        cases hr : textR q (l.drop (decodeL l).2) with
        | none => rfl
        | some on =>
          obtain ⟨o, n⟩ := on
          have hn := textR_pos hr
          simp only [Option.map_some]
          have e1 : validD (l.take (decodeL l).2 ++ o) = validD o := validD_rune hv hl
          have e2 : validD (l.take (n + (decodeL l).2 - 1)) = validD ((l.drop (decodeL l).2).take (n - 1)) := by
            have e3 : l.take (n + (decodeL l).2 - 1) = l.take (decodeL l).2 ++ (l.drop (decodeL l).2).take (n - 1) := by
              rw [show n + (decodeL l).2 - 1 = (decodeL l).2 + (n - 1) from by omega, List.take_add]
            rw [e3, validD_rune hv hl]
          rw [e1, e2]
          split <;> rfl
end Go.GB
