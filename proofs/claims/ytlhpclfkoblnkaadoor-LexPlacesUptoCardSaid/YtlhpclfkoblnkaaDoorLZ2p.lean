/- Plain laws: a token hangs on its own bytes and on what stands right behind it: any token; a text that is cut. -/
import Derived.Test.YtlhpclfkoblnkaaDoorLZ1p
set_option linter.unusedVariables false
namespace Go.GB
open Go.Lib
theorem escL_agree {l l' : List UInt8} {x : UInt8} {k : Nat} (h : escL l = some (x, k)) (ha : l'.take k = l.take k) : escL l' = some (x, k) := by
  have hk := escL_low h
  have g0 : gB l' 0 = gB l 0 := gB_agree ha (by omega)
  have d0 : l'.getD 0 0 = l.getD 0 0 := take_getD ha (by omega)
  unfold escL at h ⊢
  rw [g0, d0]
  by_cases c1 : gB l 0 = 110
  · rw [if_pos c1] at h ⊢; exact h
  rw [if_neg c1] at h ⊢
  by_cases c2 : gB l 0 = 92 ∨ gB l 0 = 34 ∨ gB l 0 = 39
  · rw [if_pos c2] at h ⊢; exact h
  rw [if_neg c2] at h ⊢
  by_cases c3 : gB l 0 = 116
  · rw [if_pos c3] at h ⊢; exact h
  rw [if_neg c3] at h ⊢
  by_cases c4 : gB l 0 = 114
  · rw [if_pos c4] at h ⊢; exact h
  rw [if_neg c4] at h ⊢
  by_cases c5 : gB l 0 = 120 ∧ hexN (gB l 1) = true ∧ hexN (gB l 2) = true ∧ gB l 1 ≤ 55
  · rw [if_pos c5] at h
    have : k = 3 := by cases h; rfl
    subst this
    rw [gB_agree ha (show 1 < 3 by omega), gB_agree ha (show 2 < 3 by omega), if_pos c5]; exact h
  · rw [if_neg c5] at h; cases h
theorem textR_agree {q : Nat} : ∀ (m : Nat) (l l' : List UInt8) (o : List UInt8) (n : Nat), l.length = m → textR q l = some (o, n) → l'.take n = l.take n → n ≤ l'.length → textR q l' = some (o, n) := by
  intro m
  induction m using Nat.strongRecOn with
  | _ m ih =>
    intro l l' o n hm h ha hl
    have hp := textR_pos h
    have hne : l ≠ [] := by intro e; subst e; simp at hp; omega
    have hne' : l' ≠ [] := by intro e; subst e; simp at hl; omega
    have g0 : gB l' 0 = gB l 0 := gB_agree ha (by omega)
    have d0 : l'.getD 0 0 = l.getD 0 0 := take_getD ha (by omega)
    rw [textR, dif_neg hne] at h
    rw [textR, dif_neg hne', g0, d0]
    by_cases c1 : gB l 0 = q
    · rw [if_pos c1] at h ⊢; exact h
    rw [if_neg c1] at h ⊢
    by_cases c2 : gB l 0 = 10
    · rw [if_pos c2] at h; cases h
    rw [if_neg c2] at h ⊢
    by_cases c3 : gB l 0 = 92
    · rw [if_pos c3] at h ⊢
      cases he : escL (l.drop 1) with
      | none => rw [he] at h; cases h
      | some xk =>
        obtain ⟨x, k⟩ := xk
        rw [he] at h
        simp only at h
        obtain ⟨⟨o', n'⟩, h1, h2⟩ := Option.map_eq_some_iff.1 h
        simp only [Prod.mk.injEq] at h2
        obtain ⟨rfl, rfl⟩ := h2
        rw [escL_agree (l' := l'.drop 1) he (agree_drop ha (by omega))]
        simp only
        rw [ih _ (by rw [List.length_drop]; omega) (l.drop (1 + k)) (l'.drop (1 + k)) o' n' rfl h1 (agree_drop ha (by omega)) (by rw [List.length_drop]; omega)]
        rfl
    · rw [if_neg c3] at h ⊢
      obtain ⟨⟨o', n'⟩, h1, h2⟩ := Option.map_eq_some_iff.1 h
      simp only [Prod.mk.injEq] at h2
      obtain ⟨rfl, rfl⟩ := h2
      rw [ih _ (by rw [List.length_drop]; omega) (l.drop 1) (l'.drop 1) o' n' rfl h1 (agree_drop ha (by omega)) (by rw [List.length_drop]; omega)]
      rfl
theorem textP_some {q : Nat} (hq : q < 128) {l o : List UInt8} {n : Nat} : textP q l = some (o, n) ↔ textR q l = some (o, n) ∧ validD o = true ∧ validD (l.take (n - 1)) = true := by
  rw [textP_eq hq]
  cases hr : textR q l with
  | none => simp
  | some on =>
    obtain ⟨o', n'⟩ := on
    simp only
    split
    · rename_i hv
      simp only [Option.some.injEq, Prod.mk.injEq]
      constructor
      · rintro ⟨rfl, rfl⟩; exact ⟨⟨rfl, rfl⟩, hv⟩
      · rintro ⟨h, _⟩; exact h
    · rename_i hv
      constructor
      · intro h; cases h
      · rintro ⟨h1, h2⟩
        simp only [Option.some.injEq, Prod.mk.injEq] at h1
        obtain ⟨rfl, rfl⟩ := h1
        exact absurd h2 hv
theorem textP_agree {q : Nat} (hq : q < 128) {l l' o : List UInt8} {n : Nat} (h : textP q l = some (o, n)) (ha : l'.take n = l.take n) (hl : n ≤ l'.length) : textP q l' = some (o, n) := by
  rw [textP_some hq] at h ⊢
  exact ⟨textR_agree _ l l' o n rfl h.1 ha hl, h.2.1, by rw [agree_le ha (by omega)]; exact h.2.2⟩
theorem signsL_down : signsL.Pairwise (fun x y => y.length ≤ x.length) := by decide
theorem signL_some {l x : List UInt8} (h : signL l = some x) : x ∈ signsL ∧ x <+: l ∧ ∀ y ∈ signsL, y <+: l → y.length ≤ x.length := by
  unfold signL at h
  have h0 := h
  rw [List.find?_eq_some_iff_append] at h
  obtain ⟨hp, as, bs, he, hn⟩ := h
  refine ⟨List.mem_of_find?_eq_some h0, List.isPrefixOf_iff_prefix.1 hp, fun y hy hyl => ?_⟩
  have hd := signsL_down
  rw [he] at hy hd
  rcases List.mem_append.1 hy with hy | hy
  · have := hn y hy
    rw [List.isPrefixOf_iff_prefix.2 hyl] at this; cases this
  · rcases List.mem_cons.1 hy with rfl | hy
    · exact Nat.le_refl _
    · rw [List.pairwise_append] at hd
      exact (List.pairwise_cons.1 hd.2.1).1 y hy
theorem signL_agree {l l' x : List UInt8} (h : signL l = some x) (ha : l'.take x.length = l.take x.length) (hl : x.length ≤ l'.length) (hb : ∀ y ∈ signsL, y <+: l' → y.length ≤ x.length) : signL l' = some x := by
  have h2 := signL_some h
  have hx : x <+: l' := by
    have := List.prefix_iff_eq_take.1 h2.2.1
    rw [List.prefix_iff_eq_take, ha]; exact this
  unfold signL at h ⊢
  rw [List.find?_eq_some_iff_append] at h ⊢
  obtain ⟨hp, as, bs, he, hn⟩ := h
  refine ⟨List.isPrefixOf_iff_prefix.2 hx, as, bs, he, fun y hy => ?_⟩
  have h3 := hn y hy
  cases hc : y.isPrefixOf l' with
  | false => rfl
  | true =>
    have h4 := List.isPrefixOf_iff_prefix.1 hc
    have h5 := hb y (by rw [he]; exact List.mem_append_left _ hy) h4
    have : y <+: l := by
      rw [List.prefix_iff_eq_take] at h4 ⊢
      rw [← agree_le ha h5]; exact h4
    rw [List.isPrefixOf_iff_prefix.2 this] at h3; cases h3
/-- what may stand behind a token so that it ends there -/
def endsAt (k : Nat) (l : List UInt8) (n : Nat) : Prop :=
  (k = 1 → (letN (gB l n) || digN (gB l n)) = false) ∧ (k = 2 ∨ k = 3 → identN (gB l n) = false) ∧ (k = 5 → ∀ y ∈ signsL, y <+: l → y.length ≤ n)
theorem oneL_kind {l t : List UInt8} {k n : Nat} (h : oneL l = some (k, t, n)) : 1 ≤ k ∧ k ≤ 5 ∧ (k ≠ 4 → t = l.take n) ∧ endsAt k l n := by
  unfold oneL at h
  by_cases c1 : letN (gB l 0) = true
  · rw [if_pos c1] at h
    simp only [Option.some.injEq, Prod.mk.injEq] at h
    obtain ⟨rfl, rfl, rfl⟩ := h
    exact ⟨by omega, by omega, fun _ => rfl, fun _ => runL_stop (p := fun c => letN c || digN c) rfl l, fun h => by omega, fun h => by omega⟩
  rw [if_neg c1] at h
  by_cases c2 : digN (gB l 0) = true ∨ gB l 0 = 46
  · rw [if_pos c2] at h
    obtain ⟨h1, h2, h3, h4, h5, h6⟩ := numTok_some (spanL_le l) h
    have : k = 2 ∨ k = 3 := by rw [h6]; split <;> simp
    exact ⟨by omega, by omega, fun _ => h3, fun h => by omega, fun _ => h4, fun h => by omega⟩
  rw [if_neg c2] at h
  by_cases c3 : gB l 0 = 34 ∨ gB l 0 = 39
  · rw [if_pos c3] at h
    obtain ⟨on, h1, h2⟩ := Option.map_eq_some_iff.1 h
    simp only [Prod.mk.injEq] at h2
    obtain ⟨rfl, _, _⟩ := h2
    exact ⟨by omega, by omega, fun h => absurd rfl h, fun h => by omega, fun h => by omega, fun h => by omega⟩
  rw [if_neg c3] at h
  obtain ⟨x, h1, h2⟩ := Option.map_eq_some_iff.1 h
  simp only [Prod.mk.injEq] at h2
  obtain ⟨rfl, rfl, rfl⟩ := h2
  have h3 := signL_some h1
  exact ⟨by omega, by omega, fun _ => List.prefix_iff_eq_take.1 h3.2.1, fun h => by omega, fun h => by omega, fun _ => h3.2.2⟩
/-- a token is the same wherever its bytes stand and it ends there -/
theorem oneL_agree {l l' t : List UInt8} {k n : Nat} (h : oneL l = some (k, t, n)) (ha : l'.take n = l.take n) (hl : n ≤ l'.length) (hb : endsAt k l' n) : oneL l' = some (k, t, n) := by
  have hp := oneL_pos h
  have g0 : gB l' 0 = gB l 0 := gB_agree ha (by omega)
  unfold oneL at h ⊢
  rw [g0]
  by_cases c1 : letN (gB l 0) = true
  · rw [if_pos c1] at h ⊢
    simp only [Option.some.injEq, Prod.mk.injEq] at h
    obtain ⟨rfl, rfl, hn⟩ := h
    have : runL (fun c => letN c || digN c) l' = n := by
      have h2 := runL_agree (p := fun c => letN c || digN c) (l := l) (l' := l') (e := n) rfl ha (by omega) hl (hb.1 rfl)
      rw [h2, hn]
    rw [hn, this, ha]
  rw [if_neg c1] at h ⊢
  by_cases c2 : digN (gB l 0) = true ∨ gB l 0 = 46
  · rw [if_pos c2] at h ⊢
    have : k = 2 ∨ k = 3 := by have := (numTok_some (spanL_le l) h).2.2.2.2.2; rw [this]; split <;> simp
    exact numTok_agree h ha hl (hb.2.1 this)
  rw [if_neg c2] at h ⊢
  by_cases c3 : gB l 0 = 34 ∨ gB l 0 = 39
  · rw [if_pos c3] at h ⊢
    obtain ⟨⟨o, n'⟩, h1, h2⟩ := Option.map_eq_some_iff.1 h
    simp only [Prod.mk.injEq] at h2
    obtain ⟨rfl, rfl, rfl⟩ := h2
    rw [textP_agree (l' := l'.drop 1) (by omega) h1 (agree_drop ha (by omega)) (by rw [List.length_drop]; omega)]
    rfl
  rw [if_neg c3] at h ⊢
  obtain ⟨x, h1, h2⟩ := Option.map_eq_some_iff.1 h
  simp only [Prod.mk.injEq] at h2
  obtain ⟨rfl, rfl, rfl⟩ := h2
  rw [signL_agree h1 ha hl (hb.2.2 rfl)]
  rfl
theorem gB_take {l : List UInt8} {m i : Nat} : gB (l.take m) i = if i < m then gB l i else 0 := by
  unfold gB
  rw [List.getD_eq_getElem?_getD, List.getElem?_take]
  split
  · rw [List.getD_eq_getElem?_getD]
  · rfl
theorem take_take' {l : List UInt8} {n m : Nat} (h : n ≤ m) : (l.take m).take n = l.take n := by rw [List.take_take, Nat.min_eq_left h]
/-- a token of a text that is cut behind it -/
theorem oneL_cut {l t : List UInt8} {k n m : Nat} (h : oneL l = some (k, t, n)) (hm : n ≤ m) : oneL (l.take m) = some (k, t, n) := by
  have hp := oneL_pos h
  have hk := (oneL_kind h).2.2.2
  have hg : gB (l.take m) n = gB l n ∨ gB (l.take m) n = 0 := by rw [gB_take]; split <;> simp
  refine oneL_agree h (take_take' hm) (by rw [List.length_take]; omega) ⟨fun h1 => ?_, fun h1 => ?_, fun h1 y hy hyl => hk.2.2 h1 y hy (hyl.trans (List.take_prefix _ _))⟩
  · rcases hg with e | e
    · rw [e]; exact hk.1 h1
    · rw [e]; rfl
  · rcases hg with e | e
    · rw [e]; exact hk.2.1 h1
    · rw [e]; rfl
/-! ### blanks -/
theorem skipL_nil : skipL [] = 0 := by rw [skipL]; rfl
theorem skipL_rec {l : List UInt8} (hl : l ≠ []) : skipL l = if blankN (gB l 0) = true then 1 + skipL (l.drop 1) else if gB l 0 = 35 then (1 + runL lineN (l.drop 1)) + skipL (l.drop (1 + runL lineN (l.drop 1))) else 0 := by
  rw [skipL, dif_neg hl]
/-- behind the blanks there is nothing, or something else -/
theorem skipL_stop (l : List UInt8) : l.drop (skipL l) = [] ∨ skipL (l.drop (skipL l)) = 0 := by
  induction hm : l.length using Nat.strongRecOn generalizing l with
  | _ m ih =>
    by_cases hl : l = []
    · subst hl; exact .inl (by simp)
    have hp := List.length_pos_iff.2 hl
    rw [skipL_rec hl]
    split
    · have := ih _ (by rw [List.length_drop]; omega) (l.drop 1) rfl
      rwa [List.drop_drop] at this
    split
    · have := ih _ (by rw [List.length_drop]; omega) (l.drop (1 + runL lineN (l.drop 1))) rfl
      rwa [List.drop_drop] at this
    · rename_i h1 h2
      rw [List.drop_zero, skipL_rec hl, if_neg h1, if_neg h2]; exact .inr rfl
/-- a text that is cut where its blanks end, or ahead -/
theorem skipL_cut : ∀ (n : Nat) (l : List UInt8) (m : Nat), l.length = n → m ≤ l.length → skipL (l.take m) = min m (skipL l) ∨ (skipL l < m ∧ skipL (l.take m) = skipL l) := by
  intro n
  induction n using Nat.strongRecOn with
  | _ n ih =>
    intro l m hn hm
    by_cases hl : l = []
    · subst hl; left; simp at hm; subst hm; simp [skipL_nil]
    have hp := List.length_pos_iff.2 hl
    rcases Nat.eq_zero_or_pos m with rfl | hm0
    · left; simp [skipL_nil]
    have hne : l.take m ≠ [] := by intro e; have := congrArg List.length e; rw [List.length_take, List.length_nil] at this; omega
    have hg : gB (l.take m) 0 = gB l 0 := by rw [gB_take, if_pos hm0]
    rw [skipL_rec hne, skipL_rec hl, hg]
    by_cases c1 : blankN (gB l 0) = true
    · rw [if_pos c1, if_pos c1, List.drop_take]
      rcases ih _ (by rw [List.length_drop]; omega) (l.drop 1) (m - 1) rfl (by rw [List.length_drop]; omega) with h | h
      · left; rw [h]; omega
      · right; omega
    rw [if_neg c1, if_neg c1]
    by_cases c2 : gB l 0 = 35
    · rw [if_pos c2, if_pos c2, List.drop_take, List.drop_take, runL_take]
      have hr := runL_le lineN (l.drop 1)
      rw [List.length_drop] at hr
      rcases Nat.lt_or_ge (m - 1) (runL lineN (l.drop 1)) with h1 | h1
      · left
        rw [Nat.min_eq_left (by omega), show m - (1 + (m - 1)) = 0 from by omega, List.take_zero, skipL_nil]; omega
      · rw [Nat.min_eq_right h1]
        rcases ih _ (by rw [List.length_drop]; omega) (l.drop (1 + runL lineN (l.drop 1))) (m - (1 + runL lineN (l.drop 1))) rfl (by rw [List.length_drop]; omega) with h | h
        · left; rw [h]; omega
        · right; omega
    · rw [if_neg c2, if_neg c2]; left; omega
theorem skipL_take {l : List UInt8} {m : Nat} (hm : m ≤ l.length) : skipL (l.take m) = min m (skipL l) := by
  rcases skipL_cut _ l m rfl hm with h | ⟨h1, h2⟩
  · exact h
  · rw [h2]; omega
/-! ### the tokens of a text that is cut ahead of one of them -/
theorem toksL_at {l : List UInt8} {a : Nat} {r : List Tk3} (h : toksL l a = .inl r) : ∀ (i : Nat) (t : Tk3), r[i]? = some t → a ≤ t.at_ ∧ t.at_ ≤ a + l.length := by
  induction hm : l.length using Nat.strongRecOn generalizing l a r with
  | _ m ih =>
    intro i t ht
    by_cases he : l.drop (skipL l) = []
    · rw [toksL_end he] at h; cases h; simp at ht
    · cases ho : oneL (l.drop (skipL l)) with
      | none => rw [toksL_bad he ho] at h; cases h
      | some ktn =>
        obtain ⟨k, x, n⟩ := ktn
        have hp := oneL_pos ho
        rw [List.length_drop] at hp
        rw [toksL_cons he ho] at h
        split at h
        · rename_i r' hr
          cases h
          cases i with
          | zero => simp at ht; subst ht; simp only; omega
          | succ i =>
            have := ih _ (by rw [List.length_drop]; omega) hr rfl i t (by simpa using ht)
            rw [List.length_drop] at this
            omega
        · cases h
theorem toksL_cut : ∀ (m : Nat) (l : List UInt8) (a : Nat) (r : List Tk3) (i p : Nat), l.length = m → toksL l a = .inl r → i ≤ r.length → p ≤ l.length → (match r[i]? with | some t => t.at_ = a + p | none => p = l.length) →
    toksL (l.take p) a = .inl (r.take i) := by
  intro m
  induction m using Nat.strongRecOn with
  | _ m ih =>
    intro l a r i p hm h hi hp hat
    have hsl := skipL_le l
    by_cases he : l.drop (skipL l) = []
    · rw [toksL_end he] at h
      cases h
      have : i = 0 := by simpa using hi
      subst this
      have hk : skipL l = l.length := by have := congrArg List.length he; rw [List.length_drop, List.length_nil] at this; omega
      refine toksL_end ?_
      rw [skipL_take hp, List.drop_eq_nil_iff, List.length_take]; omega
    · cases ho : oneL (l.drop (skipL l)) with
      | none => rw [toksL_bad he ho] at h; cases h
      | some ktn =>
        obtain ⟨k, x, n⟩ := ktn
        have hpn := oneL_pos ho
        rw [List.length_drop] at hpn
        rw [toksL_cons he ho] at h
        split at h
        · rename_i r' hr
          cases h
          cases i with
          | zero =>
            simp only [List.getElem?_cons_zero] at hat
            have : p = skipL l := by omega
            subst this
            refine toksL_end ?_
            rw [skipL_take hp, Nat.min_self, List.drop_eq_nil_iff, List.length_take]; omega
          | succ i =>
            simp only [List.getElem?_cons_succ] at hat
            have hi' : i ≤ r'.length := by simpa using hi
            have hpk : skipL l + n ≤ p := by
              cases hg : r'[i]? with
              | none => rw [hg] at hat; simp only at hat; omega
              | some t =>
                rw [hg] at hat
                have := toksL_at hr i t hg
                simp only at hat; omega
            have hsk : skipL (l.take p) = skipL l := by rw [skipL_take hp]; omega
            have hd : (l.take p).drop (skipL (l.take p)) = (l.drop (skipL l)).take (p - skipL l) := by rw [hsk, List.drop_take]
            have ho' := oneL_cut (m := p - skipL l) ho (by omega)
            have hne : (l.take p).drop (skipL (l.take p)) ≠ [] := by
              intro e
              have := congrArg List.length e
              rw [hd, List.length_take, List.length_drop, List.length_nil] at this; omega
            rw [toksL_cons hne (by rw [hd]; exact ho'), hsk, List.drop_take]
            have := ih _ (by rw [List.length_drop]; omega) (l.drop (skipL l + n)) (a + skipL l + n) r' i (p - (skipL l + n)) rfl hr hi' (by rw [List.length_drop]; omega) (by
              cases hg : r'[i]? with
              | none => rw [hg] at hat; simp only at hat ⊢; rw [List.length_drop]; omega
              | some t => rw [hg] at hat; simp only at hat ⊢; omega)
            rw [this]
            rfl
        · cases h
end Go.GB
