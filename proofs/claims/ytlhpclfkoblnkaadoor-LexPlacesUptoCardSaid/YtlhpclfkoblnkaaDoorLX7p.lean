/- Plain laws: the program's tokens are the lists'. -/
import Derived.Test.YtlhpclfkoblnkaaDoorLX6p
set_option linter.unusedVariables false
set_option maxRecDepth 100000
namespace Go.Proofs.YtlhpclfkoblnkaaDoor
open Go.GB Go.Lib
def oneOk (l : List UInt8) (r : S27 × Int) : Prop := match oneL l with
  | none => r.2 = 0
  | some (k, t, n) => r = (⟨(k : Int), ⟨t.toArray⟩, 0⟩, (n : Int))
theorem ba_tl (s : ByteArray) : (⟨(tl s).toArray⟩ : ByteArray) = s := rfl
theorem extract_ba {s : ByteArray} {n : Nat} (h : n ≤ s.size) : s.extract 0 n = ⟨((tl s).take n).toArray⟩ := by
  apply ba_eq
  show tl (s.extract 0 n) = (tl s).take n
  rw [tl_extract, List.drop_zero, Nat.sub_zero]
theorem ident_if {s : ByteArray} {n : Nat} : (bif decide ((n : Int) < (s.size : Int)) then Option.bind (bx s (n : Int)) fun c36 => bif lex_letter c36 then some true else Option.bind (bx s (n : Int)) fun c39 => bif lex_digit c39 then some true else Option.bind (bx s (n : Int)) fun c42 => some (c42 == 46) else some false) = some (identN (gB (tl s) n)) := by
  refine at_if identN rfl (fun hi => ?_)
  have hb := gB_lt (tl s) n
  rw [let_eq hb, bx_tl hi]
  simp only [Option.bind_some, dig_eq hb]
  unfold identN
  have e1 : (((gB (tl s) n : Nat) : Int) == 46) = decide (gB (tl s) n = 46) := by rw [Bool.eq_iff_iff, beq_iff_eq, decide_eq_true_eq]; omega
  rw [e1]
  cases letN (gB (tl s) n) <;> cases digN (gB (tl s) n) <;> rfl
theorem lex_one_eq {s : ByteArray} (hs : s.size < 536870912) (h0 : 0 < s.size) : ∃ r, lex_one s = some r ∧ oneOk (tl s) r := by
  have hl := tl_len s
  have hb := gB_lt (tl s) 0
  have hne : tl s ≠ [] := by intro h; rw [h] at hl; simp at hl; omega
  unfold lex_one oneOk oneL
  rw [show bx s 0 = some ((gB (tl s) 0 : Nat) : Int) from bx_tl (i := 0) h0, Option.bind_some, let_eq hb]
  by_cases c1 : letN (gB (tl s) 0) = true
  · rw [c1, cond_true, if_pos rfl]
    have hr := lex_run_eq (s := s) (a := 0) (fun c => letN c || digN c) (f := fun x0 => some (lex_one_1 x0)) (by omega) (by omega) (fun c hc => by rw [ident_eq hc]) rfl
    rw [List.drop_zero] at hr
    rw [show lex_run s 0 (fun x0 => some (lex_one_1 x0)) = _ from hr, Option.bind_some]
    have hle := runL_le (fun c => letN c || digN c) (tl s)
    rw [show sx s 0 _ = _ from sx_tl (a := 0) (b := runL (fun c => letN c || digN c) (tl s)) (by omega) (by omega), Option.bind_some, extract_ba (by omega)]
    exact ⟨_, rfl, rfl⟩
  rw [Bool.not_eq_true] at c1
  rw [c1, cond_false, if_neg (by simp), dig_eq hb]
  have e46 : (((gB (tl s) 0 : Nat) : Int) == 46) = decide (gB (tl s) 0 = 46) := by rw [Bool.eq_iff_iff, beq_iff_eq, decide_eq_true_eq]; omega
  rw [e46]
  by_cases c2 : digN (gB (tl s) 0) = true ∨ gB (tl s) 0 = 46
  · rw [show (digN (gB (tl s) 0) || decide (gB (tl s) 0 = 46)) = true from by rcases c2 with h | h <;> simp [h], cond_true, if_pos c2, lex_number_eq (by omega), Option.bind_some, lex_span_eq (by omega), Option.bind_some]
    have hnl := numL_le (tl s)
    have hsl := spanL_le (tl s)
    unfold numTok
    generalize spanL (tl s) = m at *
    generalize numL (tl s) = n at *
    have hj : (bif decide (((m : Nat) : Int) > ((n : Nat) : Int)) then some ((3 : Int), ((m : Nat) : Int)) else some (2, ((n : Nat) : Int))) = some ((((if m > n then 3 else 2) : Nat) : Int), (((if m > n then m else n) : Nat) : Int)) := by
      by_cases h : m > n
      · rw [decide_eq_true (by omega), if_pos h, if_pos h]; rfl
      · rw [decide_eq_false (by omega), if_neg h, if_neg h]; rfl
    rw [hj, Option.bind_some]
    have hel : (if m > n then m else n) ≤ s.size := by split <;> omega
    generalize (if m > n then m else n) = e at *
    generalize (if m > n then 3 else 2) = k at *
    simp only
    rw [ident_if, Option.bind_some]
    by_cases hc : identN (gB (tl s) e) = true
    · rw [hc, cond_true, if_pos (Or.inr rfl)]
      exact ⟨_, rfl, rfl⟩
    · rw [Bool.not_eq_true] at hc
      rw [hc, cond_false, show sx s 0 _ = _ from sx_tl (a := 0) (b := e) (by omega) hel, Option.bind_some, extract_ba hel]
      by_cases he : e = 0
      · rw [if_pos (Or.inl he)]; exact ⟨_, rfl, by subst he; rfl⟩
      · rw [if_neg (by simp [he])]; exact ⟨_, rfl, rfl⟩
  have c2a : (digN (gB (tl s) 0) || decide (gB (tl s) 0 = 46)) = false := by
    rw [not_or] at c2; simp [c2.1, c2.2]
  rw [c2a, cond_false, if_neg c2]
  have e34 : (((gB (tl s) 0 : Nat) : Int) == 34) = decide (gB (tl s) 0 = 34) := by rw [Bool.eq_iff_iff, beq_iff_eq, decide_eq_true_eq]; omega
  have e39 : (((gB (tl s) 0 : Nat) : Int) == 39) = decide (gB (tl s) 0 = 39) := by rw [Bool.eq_iff_iff, beq_iff_eq, decide_eq_true_eq]; omega
  rw [e34, e39]
  by_cases c3 : gB (tl s) 0 = 34 ∨ gB (tl s) 0 = 39
  · rw [show (decide (gB (tl s) 0 = 34) || decide (gB (tl s) 0 = 39)) = true from by rcases c3 with h | h <;> simp [h], cond_true, if_pos c3, lex_quoted_eq (by omega) h0 (by omega), Option.bind_some]
    cases textP (gB (tl s) 0) ((tl s).drop 1) with
    | none => exact ⟨_, rfl, rfl⟩
    | some on => exact ⟨_, rfl, rfl⟩
  · have c3a : (decide (gB (tl s) 0 = 34) || decide (gB (tl s) 0 = 39)) = false := by
      rw [not_or] at c3; simp [c3.1, c3.2]
    rw [c3a, cond_false, if_neg c3, lex_one_signs, Option.bind_some]
    cases signL (tl s) with
    | none => exact ⟨_, rfl, rfl⟩
    | some x => exact ⟨_, rfl, rfl⟩
/-! ### tokens -/
def tokOf (t : Tk3) : S27 := ⟨(t.kind : Int), ⟨t.text.toArray⟩, (t.at_ : Int)⟩
theorem tokens_loop {s : ByteArray} (hs : s.size ≤ 65536) : ∀ (m a : Nat) (acc : List S27), s.size - a = m → a ≤ s.size → acc.length ≤ a →
    loopO (lex_Tokens_l32 s) (acc, ((a + skipL ((tl s).drop a) : Nat) : Int)) = some (match toksL ((tl s).drop a) a with | .inl r => .inl (acc ++ r.map tokOf) | .inr p => .inr ([], 130, (p : Int))) := by
  intro m
  induction m using Nat.strongRecOn with
  | _ m ih =>
    intro a acc hm ha hacc
    have hl := tl_len s
    have hsk := skipL_le ((tl s).drop a)
    rw [List.length_drop] at hsk
    by_cases he : (tl s).drop (a + skipL ((tl s).drop a)) = []
    · rw [toksL_end (by rw [List.drop_drop]; exact he)]
      have hsz : ¬ (a + skipL ((tl s).drop a) < s.size) := by
        intro h
        have := congrArg List.length he
        rw [List.length_drop, List.length_nil] at this; omega
      refine (loopO_done (r := Sum.inl acc) ?_).trans ?_
      · unfold lex_Tokens_l32
        rw [decide_eq_false (by show ¬ (((a + skipL ((tl s).drop a) : Nat) : Int) < (s.size : Int)); omega)]; rfl
      · simp
    · have hlt : a + skipL ((tl s).drop a) < s.size := by
        rcases Nat.lt_or_ge (a + skipL ((tl s).drop a)) s.size with h | h
        · exact h
        · exact absurd (List.drop_eq_nil_of_le (by omega)) he
      obtain ⟨b, hb⟩ : ∃ b, a + skipL ((tl s).drop a) = b := ⟨_, rfl⟩
      have hdd : ((tl s).drop a).drop (skipL ((tl s).drop a)) = (tl s).drop b := by rw [List.drop_drop, hb]
      rw [hb] at he hlt ⊢
      have hsx : sx s (b : Int) (s.size : Int) = some (s.extract b s.size) := sx_tl (by omega) (Nat.le_refl _)
      have htl : tl (s.extract b s.size) = (tl s).drop b := by rw [tl_extract, List.take_of_length_le (by rw [List.length_drop]; omega)]
      have hsz : (s.extract b s.size).size = s.size - b := by rw [← tl_len, htl, List.length_drop, hl]
      obtain ⟨⟨tok, n⟩, h1, h2⟩ := lex_one_eq (s := s.extract b s.size) (by omega) (by omega)
      rw [htl] at h2
      unfold oneOk at h2
      cases ho : oneL ((tl s).drop b) with
      | none =>
        rw [ho] at h2
        simp only at h2
        subst h2
        rw [toksL_bad (by rw [hdd]; exact he) (by rw [hdd]; exact ho), hb]
        refine loopO_done (r := Sum.inr ([], 130, (b : Int))) ?_
        unfold lex_Tokens_l32
        rw [decide_eq_true (by show (b : Int) < (s.size : Int); omega), cond_true]
        show Option.bind (sx s (b : Int) (s.size : Int)) _ = _
        rw [hsx, Option.bind_some, h1]; rfl
      | some ktn =>
        obtain ⟨k, t, n'⟩ := ktn
        rw [ho] at h2
        simp only [Prod.mk.injEq] at h2
        obtain ⟨h2a, h2b⟩ := h2
        subst h2b
        have hp := oneL_pos ho
        rw [List.length_drop] at hp
        have hbody : lex_Tokens_l32 s (acc, (b : Int)) = some (.inl (acc ++ [tokOf ⟨k, t, b⟩], ((b + n' + skipL ((tl s).drop (b + n')) : Nat) : Int))) := by
          unfold lex_Tokens_l32
          rw [decide_eq_true (by show (b : Int) < (s.size : Int); omega), cond_true]
          show Option.bind (sx s (b : Int) (s.size : Int)) _ = _
          rw [hsx, Option.bind_some, h1, Option.bind_some]
          simp only
          rw [show (((n' : Nat) : Int) == 0) = false from by rw [beq_eq_false_iff_ne]; omega, cond_false, app_eq (by simp; omega), Option.bind_some, wrapN (n := b + n') (by omega) (by omega), lex_skip_eq (by omega) (by omega), Option.bind_some, h2a]
          rfl
        rw [toksL_cons (by rw [hdd]; exact he) (by rw [hdd]; exact ho), hb, loopO_step hbody, ih (s.size - (b + n')) (by omega) (b + n') _ rfl (by omega) (by simp; omega), List.drop_drop, show a + (skipL ((tl s).drop a) + n') = b + n' from by omega]
        cases toksL ((tl s).drop (b + n')) (b + n') with
        | inl r => simp [tokOf]
        | inr p => rfl
def endTok (s : ByteArray) : S27 := ⟨0, ⟨#[]⟩, (s.size : Int)⟩
/-- the tokens of a text, or its fault -/
def tokR (s : ByteArray) : List S27 × Int × Int :=
  if s.size > 65536 then ([], 4, 0) else match toksL (tl s) 0 with
    | .inl r => if r.length + 1 > 4096 then ([], 7, 0) else (r.map tokOf ++ [endTok s], 0, 0)
    | .inr p => ([], 130, (p : Int))
theorem lex_Tokens_eq (s : ByteArray) : lex_Tokens s = some (tokR s) := by
  unfold lex_Tokens tokR
  by_cases hs : s.size > 65536
  · rw [decide_eq_true (by omega), cond_true, if_pos hs]
  rw [decide_eq_false (by omega), cond_false, if_neg hs]
  have h1 := lex_skip_eq (s := s) (a := 0) (by omega) (Nat.zero_le _)
  rw [List.drop_zero, Nat.zero_add] at h1
  refine bind_of h1 ?_
  have h2 := tokens_loop (s := s) (by omega) s.size 0 [] (by omega) (Nat.zero_le _) (by simp)
  rw [List.drop_zero, Nat.zero_add] at h2
  refine bind_of h2 ?_
  cases hr : toksL (tl s) 0 with
  | inl r =>
    have hrl := toksL_len _ _ _ hr
    have hl := tl_len s
    simp only [List.nil_append]
    rw [app_eq (by simp; omega), Option.bind_some]
    simp only [List.length_append, List.length_map, List.length_cons, List.length_nil]
    by_cases hn : r.length + 1 > 4096
    · rw [decide_eq_true (by omega), cond_true, if_pos hn]
    · rw [decide_eq_false (by omega), cond_false, if_neg hn]; rfl
  | inr p => rfl
end Go.Proofs.YtlhpclfkoblnkaaDoor
