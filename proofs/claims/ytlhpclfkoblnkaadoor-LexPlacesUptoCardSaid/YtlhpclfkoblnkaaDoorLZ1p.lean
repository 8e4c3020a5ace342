/- Plain laws: a token hangs on its own bytes and on what stands right behind it. -/
import Derived.Test.YtlhpclfkoblnkaaDoorLX4
set_option linter.unusedVariables false
namespace Go.GB
open Go.Lib
theorem gB_agree {l l' : List UInt8} {e i : Nat} (h : l'.take e = l.take e) (hi : i < e) : gB l' i = gB l i := by
  unfold gB; rw [take_getD h hi]
theorem agree_le {l l' : List UInt8} {e n : Nat} (h : l'.take e = l.take e) (hn : n ≤ e) : l'.take n = l.take n := by
  have := congrArg (List.take n) h
  rwa [List.take_take, List.take_take, Nat.min_eq_left hn] at this
theorem agree_drop {l l' : List UInt8} {e a n : Nat} (h : l'.take e = l.take e) (hn : a + n ≤ e) : (l'.drop a).take n = (l.drop a).take n := by
  have h2 := agree_le h hn
  have := congrArg (List.drop a) h2
  rwa [List.drop_take, List.drop_take, Nat.add_sub_cancel_left] at this
theorem runL_char {p : Nat → Bool} {l : List UInt8} {r : Nat} (hl : r ≤ l.length) (h : ∀ i, i < r → p (gB l i) = true) (he : p (gB l r) = false) : runL p l = r := by
  rcases Nat.lt_trichotomy (runL p l) r with h1 | h1 | h1
  · have := runL_end (p := p) (l := l) (by omega)
    rw [h _ h1] at this; cases this
  · exact h1
  · have := (runL_in h1).2
    rw [this] at he; cases he
theorem runL_stop {p : Nat → Bool} (h0 : p 0 = false) (l : List UInt8) : p (gB l (runL p l)) = false := by
  rcases Nat.lt_or_ge (runL p l) l.length with h | h
  · exact runL_end h
  · rw [gBn_out h, h0]
/-- a run of a text that agrees up to e -/
theorem runL_agree {p : Nat → Bool} (h0 : p 0 = false) {l l' : List UInt8} {e : Nat} (h : l'.take e = l.take e) (hr : runL p l ≤ e) (hl : e ≤ l'.length) (he : p (gB l' e) = false) : runL p l' = runL p l := by
  refine runL_char (by omega) (fun i hi => by rw [gB_agree h (by omega)]; exact (runL_in hi).2) ?_
  rcases Nat.lt_or_ge (runL p l) e with h1 | h1
  · rw [gB_agree h h1]; exact runL_stop h0 l
  · rw [show runL p l = e from by omega]; exact he
theorem ident_not {c : Nat} (h : identN c = false) : letN c = false ∧ digN c = false ∧ c ≠ 46 := by
  unfold identN at h
  simp only [Bool.or_eq_false_iff, decide_eq_false_iff_not] at h
  exact ⟨h.1.1, h.1.2, h.2⟩
theorem ident_low {c : Nat} (h : identN c = false) : lowN c = false := by
  cases hl : lowN c with
  | false => rfl
  | true => rw [low_ident hl] at h; cases h
theorem ident_hex {c : Nat} (h : identN c = false) : hexN c = false := by
  have h2 := ident_not h
  cases hx : hexN c with
  | false => rfl
  | true => unfold hexN at hx; rw [h2.2.1] at hx; have := h2.1; unfold letN at this; simp at hx this; omega
theorem ident_ne {c : Nat} (h : identN c = false) : c ≠ 46 ∧ c ≠ 101 ∧ c ≠ 69 ∧ c ≠ 120 ∧ c ≠ 88 := by
  refine ⟨(ident_not h).2.2, ?_, ?_, ?_, ?_⟩ <;> (rintro rfl; exact absurd h (by decide))
theorem unitL_first {l : List UInt8} {first i : Nat} (h : unitL l first = some i) : gB l 0 = 121 ∨ gB l 0 = 119 ∨ gB l 0 = 100 ∨ gB l 0 = 104 ∨ gB l 0 = 109 ∨ gB l 0 = 115 := by
  have h1 := unitL_some h
  have h2 := unitL_run h
  have h3 := uName_len h1.1
  have h4 : gB l 0 = gB (uName i) 0 := by
    rw [← h1.2.2]
    unfold gB
    rw [List.getD_eq_getElem?_getD, List.getD_eq_getElem?_getD, List.getElem?_take, if_pos (by omega)]
  rw [h4]
  have : ∀ j : Fin 7, gB (uName j.val) 0 = 121 ∨ gB (uName j.val) 0 = 119 ∨ gB (uName j.val) 0 = 100 ∨ gB (uName j.val) 0 = 104 ∨ gB (uName j.val) 0 = 109 ∨ gB (uName j.val) 0 = 115 := by decide
  exact this ⟨i, h1.1⟩
theorem unitL_same {l l' : List UInt8} (h : l'.take (runL lowN l') = l.take (runL lowN l)) (first : Nat) : unitL l' first = unitL l first := by unfold unitL; rw [h]
theorem spanGo_agree : ∀ (f : Nat) (l l' : List UInt8) (first sum sum' : Nat), l'.take (spanGo f l first sum).1 = l.take (spanGo f l first sum).1 → (spanGo f l first sum).1 ≤ l'.length → identN (gB l' (spanGo f l first sum).1) = false → identN (gB l (spanGo f l first sum).1) = false →
    (spanGo f l' first sum').1 = (spanGo f l first sum).1
  | 0, _, _, _, _, _, _, _, _, _ => rfl
  | f + 1, l, l', first, sum, sum', ha, hl, hb', hb => by
    by_cases hd : runL digN l = 0
    · have hs : (spanGo (f + 1) l first sum).1 = 0 := by unfold spanGo; rw [if_pos hd]
      rw [hs] at hb' hl ⊢
      have : runL digN l' = 0 := runL_char (Nat.zero_le _) (fun i hi => by omega) (ident_not hb').2.1
      unfold spanGo; rw [if_pos this]
    · cases hu : unitL (l.drop (runL digN l)) first with
      | none =>
        have hs : (spanGo (f + 1) l first sum).1 = 0 := by unfold spanGo; rw [if_neg hd, hu]
        rw [hs] at hb
        have := (runL_in (p := digN) (l := l) (i := 0) (by omega)).2
        rw [(ident_not hb).2.1] at this; cases this
      | some i =>
        have hs : (spanGo (f + 1) l first sum).1 = runL digN l + (uName i).length + (spanGo f (l.drop (runL digN l + (uName i).length)) (i + 1) (min (sum + timesL (l.take (runL digN l)) (uMs i)) (maxS + 1))).1 := by
          conv => lhs; unfold spanGo
          rw [if_neg hd, hu]
        rw [hs] at ha hl hb' hb ⊢
        have hi := unitL_some hu
        have hr := unitL_run hu
        have hn := uName_len hi.1
        generalize hS : (spanGo f (l.drop (runL digN l + (uName i).length)) (i + 1) (min (sum + timesL (l.take (runL digN l)) (uMs i)) (maxS + 1))).1 = S at *
        have hD : runL digN l' = runL digN l := by
          refine runL_char (by omega) (fun j hj => by rw [gB_agree ha (by omega)]; exact (runL_in hj).2) ?_
          rw [gB_agree ha (by omega)]; exact runL_stop rfl l
        have hU : runL lowN (l'.drop (runL digN l)) = (uName i).length := by
          refine runL_char (by rw [List.length_drop]; omega) (fun j hj => ?_) ?_
          · rw [gB_drop, gB_agree ha (by omega), ← gB_drop]; exact (runL_in (by rw [hr]; exact hj)).2
          · rw [gB_drop]
            rcases Nat.eq_zero_or_pos S with h0 | h0
            · rw [h0, Nat.add_zero] at hb'; exact ident_low hb'
            · rw [gB_agree ha (by omega), ← gB_drop, ← hr]; exact runL_stop rfl _
        have hu' : unitL (l'.drop (runL digN l)) first = some i := by
          rw [unitL_same (l := l.drop (runL digN l)) (by rw [hU, hr]; exact agree_drop ha (by omega)), hu]
        have hs' : (spanGo (f + 1) l' first sum').1 = runL digN l + (uName i).length + (spanGo f (l'.drop (runL digN l + (uName i).length)) (i + 1) (min (sum' + timesL (l'.take (runL digN l)) (uMs i)) (maxS + 1))).1 := by
          conv => lhs; unfold spanGo
          rw [hD, if_neg hd, hu']
        rw [hs']
        have := spanGo_agree f (l.drop (runL digN l + (uName i).length)) (l'.drop (runL digN l + (uName i).length)) (i + 1) (min (sum + timesL (l.take (runL digN l)) (uMs i)) (maxS + 1)) (min (sum' + timesL (l'.take (runL digN l)) (uMs i)) (maxS + 1))
          (by rw [hS]; exact agree_drop ha (by omega)) (by rw [hS, List.length_drop]; omega) (by rw [hS, gB_drop]; exact hb') (by rw [hS, gB_drop]; exact hb)
        rw [this, hS]
/-- a duration has a unit right behind its first digits -/
theorem spanL_pos {l : List UInt8} (h : 0 < spanL l) : 0 < runL digN l ∧ runL digN l < spanL l ∧ ∃ i, unitL (l.drop (runL digN l)) 0 = some i := by
  unfold spanL spanGo at *
  by_cases hd : runL digN l = 0
  · rw [if_pos hd] at h; exact absurd h (by simp)
  rw [if_neg hd] at *
  cases hu : unitL (l.drop (runL digN l)) 0 with
  | none => rw [hu] at h; exact absurd h (by simp)
  | some i =>
    have := uName_len (unitL_some hu).1
    simp only
    exact ⟨by omega, by omega, i, rfl⟩
theorem spanL_zero {l : List UInt8} (h : unitL (l.drop (runL digN l)) 0 = none) : spanL l = 0 := by
  rcases Nat.eq_zero_or_pos (spanL l) with h0 | h0
  · exact h0
  · obtain ⟨_, _, i, hi⟩ := spanL_pos h0
    rw [h] at hi; cases hi
/-- digits right ahead of what is no dot, no exponent, are a number -/
theorem numL_dig {l : List UInt8} (hx : ¬ (gB l 0 = 48 ∧ (gB l 1 = 120 ∨ gB l 1 = 88))) (h1 : gB l (runL digN l) ≠ 46) (h2 : gB l (runL digN l) ≠ 101) (h3 : gB l (runL digN l) ≠ 69) : numL l = runL digN l := by
  unfold numL numA
  rw [if_neg (fun h => hx ⟨h.1, h.2.1⟩), if_neg h1]
  split
  · omega
  · unfold expL; rw [if_neg (by omega)]
theorem numA_ge {l : List UInt8} (h : numA l (runL digN l) ≠ 0) : runL digN l ≤ numA l (runL digN l) := by
  unfold numA at *
  split
  · rename_i hd
    rw [if_pos hd] at h
    split
    · rename_i h0; rw [if_pos h0] at h; exact absurd rfl h
    · omega
  · omega
set_option maxHeartbeats 2000000 in
theorem numTok_agree {l l' : List UInt8} {k e : Nat} {t : List UInt8} (h : numTok l (spanL l) = some (k, t, e)) (ha : l'.take e = l.take e) (hl : e ≤ l'.length) (hb' : identN (gB l' e) = false) :
    numTok l' (spanL l') = some (k, t, e) := by
  obtain ⟨h1, h2, rfl, hb, he, hk⟩ := numTok_some (spanL_le l) h
  have hnd := ident_not hb'
  have hne := ident_ne hb'
  have hne2 := ident_ne hb
  suffices hh : (spanL l' > numL l' ↔ spanL l > numL l) ∧ (if spanL l' > numL l' then spanL l' else numL l') = e by
    unfold numTok
    simp only
    rw [hh.2, if_neg (by rw [hb']; simp; omega)]
    congr 2
    · rw [hk]; by_cases hg : spanL l > numL l
      · rw [if_pos hg, if_pos (hh.1.2 hg)]
      · rw [if_neg hg, if_neg (fun h => hg (hh.1.1 h))]
    · rw [ha]
  by_cases hg : spanL l > numL l
  · rw [if_pos hg] at he
    obtain ⟨hD0, hD1, i, hi⟩ := spanL_pos (l := l) (by omega)
    have hfst := unitL_first hi
    rw [gB_drop, Nat.add_zero] at hfst
    have hsp : spanL l' = spanL l := by
      have := spanGo_agree 8 l l' 0 0 0 (by rw [show (spanGo 8 l 0 0).1 = spanL l from rfl, ← he]; exact ha) (by rw [show (spanGo 8 l 0 0).1 = spanL l from rfl, ← he]; exact hl) (by rw [show (spanGo 8 l 0 0).1 = spanL l from rfl, ← he]; exact hb') (by rw [show (spanGo 8 l 0 0).1 = spanL l from rfl, ← he]; exact hb)
      exact this
    have hD : runL digN l' = runL digN l := runL_agree rfl ha (by omega) hl hnd.2.1
    have hx : ∀ x : List UInt8, gB x 1 = gB l 1 → ¬ (gB x 0 = 48 ∧ (gB x 1 = 120 ∨ gB x 1 = 88)) := fun x hx1 h => by
      rw [hx1] at h
      rcases Nat.lt_or_ge 1 (runL digN l) with h5 | h5
      · have := (runL_in h5).2
        unfold digN at this; simp at this; omega
      · rw [show runL digN l = 1 from by omega] at hfst; omega
    have hN : numL l = runL digN l := numL_dig (hx l rfl) (by omega) (by omega) (by omega)
    have hgD : gB l' (runL digN l) = gB l (runL digN l) := gB_agree ha (by omega)
    have hN' : numL l' = runL digN l' := numL_dig (hx l' (gB_agree ha (by omega))) (by rw [hD, hgD]; omega) (by rw [hD, hgD]; omega) (by rw [hD, hgD]; omega)
    rw [hsp, hN', hD, hN]
    rw [hN] at hg
    exact ⟨Iff.rfl, by rw [if_pos hg, he]⟩
  · rw [if_neg hg] at he
    have fin : numL l' = e → spanL l' = 0 → (spanL l' > numL l' ↔ spanL l > numL l) ∧ (if spanL l' > numL l' then spanL l' else numL l') = e := fun h4 h5 => by
      rw [h4, h5]
      exact ⟨⟨fun h => by omega, fun h => absurd h hg⟩, if_neg (by omega)⟩
    by_cases hX : gB l 0 = 48 ∧ (gB l 1 = 120 ∨ gB l 1 = 88) ∧ 0 < runL hexN (l.drop 2)
    · have heX : e = 2 + runL hexN (l.drop 2) := by rw [he]; unfold numL; rw [if_pos hX]
      have g0 : gB l' 0 = gB l 0 := gB_agree ha (by omega)
      have g1 : gB l' 1 = gB l 1 := gB_agree ha (by omega)
      have hR : runL hexN (l'.drop 2) = runL hexN (l.drop 2) := runL_agree (e := e - 2) rfl (agree_drop ha (by omega)) (by omega) (by rw [List.length_drop]; omega) (by rw [gB_drop, show 2 + (e - 2) = e from by omega]; exact ident_hex hb')
      refine fin ?_ ?_
      · unfold numL; rw [g0, g1, hR, if_pos hX, heX]
      · have hD : runL digN l' = 1 := runL_char (by omega) (fun i hi => by
          have : i = 0 := by omega
          rw [this, g0, hX.1]; decide) (by rw [g1]; rcases hX.2.1 with h | h <;> rw [h] <;> decide)
        refine spanL_zero ?_
        rw [hD]
        cases hu : unitL (l'.drop 1) 0 with
        | none => rfl
        | some i =>
          have := unitL_first hu
          rw [gB_drop, Nat.add_zero, g1] at this
          omega
    · have hM0 : numA l (runL digN l) ≠ 0 := by
        intro h0
        have : numL l = 0 := by unfold numL; rw [if_neg hX, if_pos h0]
        omega
      have heE : e = expL l (numA l (runL digN l)) := by rw [he]; unfold numL; rw [if_neg hX, if_neg hM0]
      have hMD := numA_ge hM0
      have hMl := numA_le (l := l) (a := runL digN l) (runL_le _ _)
      have hMe := (expL_le hMl).1
      rw [← heE] at hMe
      have hX' : ¬ (gB l' 0 = 48 ∧ (gB l' 1 = 120 ∨ gB l' 1 = 88) ∧ 0 < runL hexN (l'.drop 2)) := by
        intro hx
        rcases Nat.lt_or_ge 1 e with h5 | h5
        · have g0 : gB l' 0 = gB l 0 := gB_agree ha (by omega)
          have g1 : gB l' 1 = gB l 1 := gB_agree ha (by omega)
          rw [g0, g1] at hx
          have hD1 : runL digN l = 1 := by
            have hp : 1 ≤ l.length := by omega
            refine runL_char hp (fun i hi => ?_) ?_
            · have : i = 0 := by omega
              rw [this, hx.1]; decide
            · rcases hx.2.1 with h | h <;> rw [h] <;> decide
          have : numA l 1 = 1 := by unfold numA; rw [if_neg (by omega)]
          rw [hD1, this] at heE
          unfold expL at heE
          rw [if_neg (by omega)] at heE
          omega
        · have : e = 1 := by omega
          rw [this] at hne; omega
      have hD : runL digN l' = runL digN l := runL_agree rfl ha (by omega) hl hnd.2.1
      generalize hDe : runL digN l = D at *
      have hlD : D ≤ l.length := by rw [← hDe]; exact runL_le _ _
      have hM : numA l' D = numA l D := by
        rcases Nat.lt_or_ge D e with h5 | h5
        · have g : gB l' D = gB l D := gB_agree ha h5
          unfold numA
          rw [g]
          by_cases hd : gB l D = 46
          · have hv : numA l D = if D + runL digN (l.drop (D + 1)) = 0 then 0 else D + 1 + runL digN (l.drop (D + 1)) := by unfold numA; rw [if_pos hd]
            have hz : D + runL digN (l.drop (D + 1)) ≠ 0 := fun h => by rw [hv, if_pos h] at hM0; exact hM0 rfl
            rw [if_neg hz] at hv
            have hB : runL digN (l'.drop (D + 1)) = runL digN (l.drop (D + 1)) := runL_agree (e := e - (D + 1)) rfl (agree_drop ha (by omega)) (by omega) (by rw [List.length_drop]; omega) (by rw [gB_drop, show D + 1 + (e - (D + 1)) = e from by omega]; exact hnd.2.1)
            rw [if_pos hd, if_pos hd, hB]
          · rw [if_neg hd, if_neg hd]
        · have hDE : D = e := by omega
          unfold numA
          rw [hDE, if_neg hne.1, if_neg hne2.1]
      have hE : expL l' (numA l D) = expL l (numA l D) := by
        generalize numA l D = M at *
        rcases Nat.lt_or_ge M e with h5 | h5
        · have g : gB l' M = gB l M := gB_agree ha h5
          by_cases hc : gB l M = 101 ∨ gB l M = 69
          · have hv : expL l M = if 0 < runL digN (l.drop (expK l M)) then expK l M + runL digN (l.drop (expK l M)) else M := by unfold expL; rw [if_pos hc]
            have hR : 0 < runL digN (l.drop (expK l M)) := by
              rcases Nat.eq_zero_or_pos (runL digN (l.drop (expK l M))) with h0 | h0
              · rw [if_neg (by omega)] at hv; omega
              · exact h0
            rw [if_pos hR] at hv
            have hK0 : M + 1 ≤ expK l M := by unfold expK; split <;> omega
            have hK : expK l' M = expK l M := by
              unfold expK; rw [gB_agree ha (by omega)]
            have hR' : runL digN (l'.drop (expK l M)) = runL digN (l.drop (expK l M)) := runL_agree (e := e - expK l M) rfl (agree_drop ha (by omega)) (by omega) (by rw [List.length_drop]; omega) (by rw [gB_drop, show expK l M + (e - expK l M) = e from by omega]; exact hnd.2.1)
            conv => lhs; unfold expL
            rw [g, if_pos hc, hK, hR', if_pos hR, hv]
          · unfold expL
            rw [g, if_neg hc, if_neg hc]
        · have hME : M = e := by omega
          rw [← heE]
          unfold expL
          rw [hME, if_neg (by omega)]
      refine fin ?_ ?_
      · unfold numL
        rw [if_neg hX', hD, hM, if_neg hM0, hE, heE]
      · refine spanL_zero ?_
        rw [hD]
        cases hu : unitL (l'.drop D) 0 with
        | none => rfl
        | some i =>
          have hf := unitL_first hu
          rw [gB_drop, Nat.add_zero] at hf
          rcases Nat.lt_or_ge D e with h5 | h5
          · have g : gB l' D = gB l D := gB_agree ha h5
            rw [g] at hf
            have : numA l D = D := by unfold numA; rw [if_neg (by omega)]
            rw [this] at heE
            unfold expL at heE
            rw [if_neg (by omega)] at heE
            omega
          · have hDE : D = e := by omega
            rw [hDE] at hf
            have hlt := hnd.1
            unfold letN at hlt
            simp at hlt
            omega
end Go.GB
