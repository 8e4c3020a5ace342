/- Plain laws: one token and all tokens, as the document has them. -/
import Derived.Test.YtlhpclfkoblnkaaDoorLX10
set_option linter.unusedVariables false
set_option maxRecDepth 100000
namespace Go.Proofs.YtlhpclfkoblnkaaDoor
open Go.GB Go.Lib
def roneOk (l : List UInt8) (a : Nat) (r : S27 × Int × Bool) : Prop := match oneL l with
  | none => r.2.2 = false
  | some (k, t, n) => r = (⟨(k : Int), ⟨t.toArray⟩, (a : Int)⟩, ((a + n : Nat) : Int), true)
theorem extract_ba2 {s : ByteArray} {a n : Nat} : s.extract a (a + n) = ⟨(((tl s).drop a).take n).toArray⟩ := by
  apply ba_eq
  show tl (s.extract a (a + n)) = ((tl s).drop a).take n
  rw [tl_extract, show a + n - a = n from by omega]
theorem rident_if {s : ByteArray} {n : Nat} : (bif decide ((n : Int) < (s.size : Int)) then Option.bind (bx s (n : Int)) fun c75 => bif tocsinref13_letter c75 then some true else Option.bind (bx s (n : Int)) fun c78 => bif tocsinref13_digit c78 then some true else Option.bind (bx s (n : Int)) fun c81 => some (c81 == 46) else some false) = some (identN (gB (tl s) n)) := by
  refine at_if identN rfl (fun hi => ?_)
  have hb := gB_lt (tl s) n
  rw [rlet_eq hb, bx_tl hi]
  simp only [Option.bind_some, rdig_eq hb]
  unfold identN
  have e1 : (((gB (tl s) n : Nat) : Int) == 46) = decide (gB (tl s) n = 46) := by rw [Bool.eq_iff_iff, beq_iff_eq, decide_eq_true_eq]; omega
  rw [e1]
  cases letN (gB (tl s) n) <;> cases digN (gB (tl s) n) <;> rfl
theorem rone_eq {s : ByteArray} {a : Nat} (hs : s.size < 536870912) (ha : a < s.size) : ∃ r, tocsinref13_one s (a : Int) = some r ∧ roneOk ((tl s).drop a) a r := by
  have hl := tl_len s
  have hb := gB_lt (tl s) a
  have hg : gB ((tl s).drop a) 0 = gB (tl s) a := by rw [gB_drop]; rfl
  have eqc : ∀ (c k : Nat), (((c : Nat) : Int) == (k : Int)) = decide (c = k) := fun c k => by rw [Bool.eq_iff_iff, beq_iff_eq, decide_eq_true_eq]; omega
  unfold tocsinref13_one roneOk oneL
  rw [hg, bx_tl ha, Option.bind_some, rlet_eq hb]
  by_cases c1 : letN (gB (tl s) a) = true
  · rw [c1, cond_true, if_pos rfl]
    have hr := while_eq (s := s) (body := tocsinref13_one_l20 s) (fun c => letN c || digN c) (by omega) (fun k hk => by
      unfold tocsinref13_one_l20
      refine bind_of (at_if (fun c => letN c || digN c) rfl (fun hi => by
        rw [rlet_eq (gB_lt _ _), bx_tl hi]
        simp only [Option.bind_some, rdig_eq (gB_lt _ _)]
        cases letN (gB (tl s) k) <;> rfl)) ?_
      exact while_body (p := fun c => letN c || digN c) (by omega) rfl rfl hk) (a := a) (by omega)
    rw [hr, Option.bind_some]
    have hle := runL_le (fun c => letN c || digN c) ((tl s).drop a)
    rw [List.length_drop] at hle
    rw [sx_tl (by omega) (by omega), Option.bind_some, extract_ba2]
    exact ⟨_, rfl, rfl⟩
  rw [Bool.not_eq_true] at c1
  rw [c1, cond_false, if_neg (by simp)]
  rw [show (((gB (tl s) a : Nat) : Int) == 34) = decide (gB (tl s) a = 34) from eqc _ 34, show (((gB (tl s) a : Nat) : Int) == 39) = decide (gB (tl s) a = 39) from eqc _ 39]
  by_cases c3 : gB (tl s) a = 34 ∨ gB (tl s) a = 39
  · have hd : ¬ (digN (gB (tl s) a) = true ∨ gB (tl s) a = 46) := by unfold digN; simp; omega
    rw [show (decide (gB (tl s) a = 34) || decide (gB (tl s) a = 39)) = true from by rcases c3 with h | h <;> simp [h], cond_true, if_neg hd, if_pos c3, rtext_eq (by omega) ha (by omega), Option.bind_some, List.drop_drop, textP_eq (by omega)]
    cases textR (gB (tl s) a) ((tl s).drop (a + 1)) with
    | none => exact ⟨_, rfl, rfl⟩
    | some on =>
      obtain ⟨o, n⟩ := on
      refine ⟨_, rfl, ?_⟩
      simp only
      by_cases hv : validD o = true ∧ validD (((tl s).drop (a + 1)).take (n - 1)) = true
      · rw [if_pos hv, hv.1, hv.2]
        simp only [Option.map_some]
        rw [show a + 1 + n = a + (n + 1) from by omega]; rfl
      · rw [if_neg hv]
        simp only [Option.map_none]
        cases h1 : validD o with
        | false => rfl
        | true =>
          cases h2 : validD (((tl s).drop (a + 1)).take (n - 1)) with
          | false => rfl
          | true => exact absurd ⟨h1, h2⟩ hv
  have c3a : (decide (gB (tl s) a = 34) || decide (gB (tl s) a = 39)) = false := by
    rw [not_or] at c3; simp [c3.1, c3.2]
  rw [c3a, cond_false, rdig_eq hb, show (((gB (tl s) a : Nat) : Int) == 46) = decide (gB (tl s) a = 46) from eqc _ 46]
  by_cases c2 : digN (gB (tl s) a) = true ∨ gB (tl s) a = 46
  · rw [show (digN (gB (tl s) a) || decide (gB (tl s) a = 46)) = true from by rcases c2 with h | h <;> simp [h], cond_true, if_pos c2, rnumber_eq (by omega) ha, Option.bind_some, rspan_eq (by omega) (by omega), Option.bind_some, numTok_rel]
    have hnl := numL_le ((tl s).drop a)
    have hsl := spanRGo_le 8 ((tl s).drop a) 0
    rw [show spanRGo 8 ((tl s).drop a) 0 = spanR ((tl s).drop a) from rfl] at hsl
    rw [List.length_drop] at hnl hsl
    have hN : ∀ m, numTok ((tl s).drop a) m = if (if m > numL ((tl s).drop a) then m else numL ((tl s).drop a)) = 0 ∨ identN (gB ((tl s).drop a) (if m > numL ((tl s).drop a) then m else numL ((tl s).drop a))) = true then none else some (if m > numL ((tl s).drop a) then 3 else 2, ((tl s).drop a).take (if m > numL ((tl s).drop a) then m else numL ((tl s).drop a)), (if m > numL ((tl s).drop a) then m else numL ((tl s).drop a))) := fun m => rfl
    rw [hN, gB_drop]
    clear hN
    generalize spanR ((tl s).drop a) = m at *
    generalize numL ((tl s).drop a) = n at *
    have hj : (bif decide (((a + m : Nat) : Int) > ((a + n : Nat) : Int)) then some (((a + m : Nat) : Int), (3 : Int)) else some (((a + n : Nat) : Int), 2)) = some (((a + (if m > n then m else n) : Nat) : Int), (((if m > n then 3 else 2) : Nat) : Int)) := by
      by_cases h : m > n
      · rw [decide_eq_true (by omega), if_pos h, if_pos h]; rfl
      · rw [decide_eq_false (by omega), if_neg h, if_neg h]; rfl
    rw [hj, Option.bind_some]
    have hel : (if m > n then m else n) ≤ s.size - a := by split <;> omega
    generalize (if m > n then m else n) = e at *
    generalize (if m > n then 3 else 2) = k at *
    simp only
    rw [show (((a + e : Nat) : Int) == (a : Int)) = decide (e = 0) from by rw [Bool.eq_iff_iff, beq_iff_eq, decide_eq_true_eq]; omega]
    by_cases he : e = 0
    · rw [decide_eq_true he, cond_true, Option.bind_some, cond_true, if_pos (Or.inl he)]
      exact ⟨_, rfl, rfl⟩
    rw [decide_eq_false he, cond_false, rident_if, Option.bind_some]
    by_cases hc : identN (gB (tl s) (a + e)) = true
    · rw [hc, cond_true, if_pos (Or.inr rfl)]
      exact ⟨_, rfl, rfl⟩
    · rw [Bool.not_eq_true] at hc
      rw [hc, cond_false, sx_tl (by omega) (by omega), Option.bind_some, extract_ba2, if_neg (by simp [he])]
      exact ⟨_, rfl, rfl⟩
  have c2a : (digN (gB (tl s) a) || decide (gB (tl s) a = 46)) = false := by
    rw [not_or] at c2; simp [c2.1, c2.2]
  rw [c2a, cond_false, if_neg c2, if_neg c3, rsign_eq (by omega) (by omega), Option.bind_some]
  cases ho : signL ((tl s).drop a) with
  | none =>
    refine ⟨_, rfl, ?_⟩
    show (!((⟨#[]⟩ : ByteArray).toList == (⟨#[]⟩ : ByteArray).toList)) = false
    rw [beq_self_eq_true]; rfl
  | some x =>
    have ho2 := ho
    unfold signL at ho2
    have h3 := List.mem_of_find?_eq_some ho2
    have h3b := List.find?_some ho2
    have h4 := (List.isPrefixOf_iff_prefix.1 h3b).length_le
    rw [List.length_drop] at h4
    have h5 : ∀ x ∈ signsL, 1 ≤ x.length := by decide
    have h6 := h5 x h3
    refine ⟨_, rfl, ?_⟩
    simp only [Option.map_some]
    have hsz : (⟨x.toArray⟩ : ByteArray).size = x.length := by rw [← tl_len]
    rw [hsz, wrapN (n := a + x.length) (by omega) (by omega), nil_size, hsz, decide_eq_false (by omega)]
    rfl
theorem rtokens_loop {s : ByteArray} (hs : s.size ≤ 65536) : ∀ (m a : Nat) (acc : List S27), s.size - a = m → a ≤ s.size → acc.length ≤ a →
    loopO (tocsinref13_Tokens_l30 s) (acc, (a : Int)) = some (match toksL ((tl s).drop a) a with | .inl r => .inl (acc ++ r.map tokOf) | .inr p => .inr ([], 130, (p : Int))) := by
  intro m
  induction m using Nat.strongRecOn with
  | _ m ih =>
    intro a acc hm ha hacc
    have hl := tl_len s
    by_cases hlt : a < s.size
    · have hne : (tl s).drop a ≠ [] := by intro h; have := congrArg List.length h; rw [List.length_drop, List.length_nil] at this; omega
      have hg : gB ((tl s).drop a) 0 = gB (tl s) a := by rw [gB_drop]; rfl
      have hsk : skipL ((tl s).drop a) = if blankN (gB (tl s) a) = true then 1 + skipL ((tl s).drop (a + 1)) else if gB (tl s) a = 35 then (1 + runL lineN ((tl s).drop (a + 1))) + skipL ((tl s).drop (a + (1 + runL lineN ((tl s).drop (a + 1))))) else 0 := by
        rw [skipL, dif_neg hne, hg, List.drop_drop, List.drop_drop]
      have step : ∀ (acc' : List S27) (j : Nat), tocsinref13_Tokens_l30 s (acc, (a : Int)) = some (.inl (acc', ((j : Nat) : Int))) → a < j → j ≤ s.size → acc'.length ≤ j →
          loopO (tocsinref13_Tokens_l30 s) (acc, (a : Int)) = some (match toksL ((tl s).drop j) j with | .inl r => .inl (acc' ++ r.map tokOf) | .inr p => .inr ([], 130, (p : Int))) := fun acc' j h1 h2 h3 h4 => by
        rw [loopO_step h1]; exact ih (s.size - j) (by omega) j acc' rfl h3 h4
      by_cases hb : blankN (gB (tl s) a) = true
      · rw [if_pos hb] at hsk
        have hbody : tocsinref13_Tokens_l30 s (acc, (a : Int)) = some (.inl (acc, ((a + 1 : Nat) : Int))) := by
          unfold tocsinref13_Tokens_l30
          rw [decide_eq_true (by show (a : Int) < (s.size : Int); omega), cond_true]
          simp only [bx_tl hlt, Option.bind_some, rblank_eq (gB_lt _ _), hb, cond_true]
          rw [wrapN (n := a + 1) (by omega) (by omega)]
        have e := toksL_skip (l := (tl s).drop a) (a := a) (k := 1) (by rw [List.drop_drop]; exact hsk)
        rw [List.drop_drop] at e
        rw [step _ _ hbody (by omega) (by omega) (by omega), e]
      rw [if_neg hb] at hsk
      rw [Bool.not_eq_true] at hb
      by_cases hr : gB (tl s) a = 35
      · rw [if_pos hr] at hsk
        have hw := runL_le lineN ((tl s).drop (a + 1))
        rw [List.length_drop] at hw
        have hrun : runL lineN ((tl s).drop a) = 1 + runL lineN ((tl s).drop (a + 1)) := by rw [runL_step (by omega), hr, if_pos (by decide)]; omega
        have hinner : loopO (tocsinref13_Tokens_l64 s) (a : Int) = some ((a + runL lineN ((tl s).drop a) : Nat) : Int) := by
          refine while_eq lineN (by omega) (fun k hk => ?_) (by omega)
          unfold tocsinref13_Tokens_l64
          by_cases hk2 : k < s.size
          · rw [decide_eq_true (by omega), cond_true, bx_tl hk2, Option.bind_some, Option.bind_some]
            have e1 : ((((gB (tl s) k : Nat) : Int)) != 10) = lineN (gB (tl s) k) := by
              unfold lineN; rw [Bool.eq_iff_iff, bne_iff_ne, decide_eq_true_eq]; omega
            rw [e1, wrapN (n := k + 1) (by omega) (by omega)]
            cases lineN (gB (tl s) k) with
            | true => rw [cond_true, if_pos ⟨hk2, rfl⟩]
            | false => rw [cond_false, if_neg (by simp)]
          · rw [decide_eq_false (by omega), cond_false, Option.bind_some, cond_false, if_neg (fun h => hk2 h.1)]
        have hbody : tocsinref13_Tokens_l30 s (acc, (a : Int)) = some (.inl (acc, ((a + (1 + runL lineN ((tl s).drop (a + 1))) : Nat) : Int))) := by
          unfold tocsinref13_Tokens_l30
          rw [decide_eq_true (by show (a : Int) < (s.size : Int); omega), cond_true]
          simp only [bx_tl hlt, Option.bind_some, rblank_eq (gB_lt _ _), hb, cond_false]
          rw [show (((gB (tl s) a : Nat) : Int) == 35) = true from by rw [hr]; rfl, cond_true, hinner, hrun]
          rfl
        have e := toksL_skip (l := (tl s).drop a) (a := a) (k := 1 + runL lineN ((tl s).drop (a + 1))) (by rw [List.drop_drop]; exact hsk)
        rw [List.drop_drop] at e
        rw [step _ _ hbody (by omega) (by omega) (by omega), e]
      · rw [if_neg hr] at hsk
        obtain ⟨⟨tok, n, ok⟩, h1, h2⟩ := rone_eq (s := s) (a := a) (by omega) hlt
        have hb35 : (((gB (tl s) a : Nat) : Int) == 35) = false := by rw [beq_eq_false_iff_ne]; omega
        have hdd : ((tl s).drop a).drop (skipL ((tl s).drop a)) = (tl s).drop a := by rw [hsk]; rfl
        unfold roneOk at h2
        cases ho : oneL ((tl s).drop a) with
        | none =>
          rw [ho] at h2
          simp only at h2
          subst h2
          rw [toksL_bad (by rw [hdd]; exact hne) (by rw [hdd]; exact ho), hsk]
          refine loopO_done (r := Sum.inr ([], 130, ((a + 0 : Nat) : Int))) ?_
          unfold tocsinref13_Tokens_l30
          rw [decide_eq_true (by show (a : Int) < (s.size : Int); omega), cond_true]
          simp only [bx_tl hlt, Option.bind_some, rblank_eq (gB_lt _ _), hb, hb35, cond_false, h1, Bool.not_false, cond_true]
          rfl
        | some ktn =>
          obtain ⟨k, t, n'⟩ := ktn
          rw [ho] at h2
          simp only [Prod.mk.injEq] at h2
          obtain ⟨h2a, h2b, h2c⟩ := h2
          subst h2b h2c
          have hp := oneL_pos ho
          rw [List.length_drop] at hp
          have hbody : tocsinref13_Tokens_l30 s (acc, (a : Int)) = some (.inl (acc ++ [tokOf ⟨k, t, a⟩], ((a + n' : Nat) : Int))) := by
            unfold tocsinref13_Tokens_l30
            rw [decide_eq_true (by show (a : Int) < (s.size : Int); omega), cond_true]
            simp only [bx_tl hlt, Option.bind_some, rblank_eq (gB_lt _ _), hb, hb35, cond_false, h1, Bool.not_true]
            rw [app_eq (by simp; omega), Option.bind_some, Option.bind_some, h2a]
            rfl
          have e := toksL_cons (l := (tl s).drop a) (a := a) (by rw [hdd]; exact hne) (by rw [hdd]; exact ho)
          rw [hsk, List.drop_drop, Nat.zero_add, Nat.add_zero] at e
          rw [e, step _ _ hbody (by omega) (by omega) (by simp; omega)]
          cases toksL ((tl s).drop (a + n')) (a + n') with
          | inl r => simp
          | inr p => rfl
    · have e0 : (tl s).drop a = [] := List.drop_eq_nil_of_le (by omega)
      rw [e0, toksL_end (by simp)]
      refine (loopO_done (r := Sum.inl acc) ?_).trans (by simp)
      unfold tocsinref13_Tokens_l30
      rw [decide_eq_false (by show ¬ ((a : Int) < (s.size : Int)); omega)]; rfl
theorem rTokens_eq (s : ByteArray) : tocsinref13_Tokens s = some (tokR s) := by
  unfold tocsinref13_Tokens tokR
  by_cases hs : s.size > 65536
  · rw [decide_eq_true (by omega), cond_true, if_pos hs]
  rw [decide_eq_false (by omega), cond_false, if_neg hs]
  have h2 := rtokens_loop (s := s) (by omega) s.size 0 [] (by omega) (Nat.zero_le _) (by simp)
  rw [List.drop_zero] at h2
  refine bind_of h2 ?_
  cases hr : toksL (tl s) 0 with
  | inl r =>
    have hrl := toksL_len _ _ _ hr
    have hl := tl_len s
    simp only [List.nil_append]
    rw [app_eq (by simp; omega), Option.bind_some]
    simp only [List.length_append, List.length_map, List.length_cons, List.length_nil]
    by_cases hn : r.length + 1 > 4096
    · rw [decide_eq_true (by omega), cond_true, if_pos hn]
    · rw [decide_eq_false (by omega), cond_false, if_neg hn]; rfl
  | inr p => rfl
theorem tokR_len (s : ByteArray) : (tokR s).1.length ≤ 4096 := by
  unfold tokR
  split
  · simp
  · split
    · split
      · simp
      · simp; omega
    · simp
theorem whole_self {l : List S27} (hl : l.length ≤ 2147483648) : tocsinlaw13_whole l l = some true := by
  unfold tocsinlaw13_whole
  rw [show (((l.length : Nat) : Int) != ((l.length : Nat) : Int)) = false from by simp, cond_false]
  refine bind_of (a := .inl ()) ?_ rfl
  have h := up_all (body := tocsinlaw13_whole_l18 l l) (n := l.length) (fun _ => true) (fun i hi => by
    unfold tocsinlaw13_whole_l18
    rw [decide_eq_true (by omega), cond_true, ix_nat, List.getElem?_eq_getElem hi, Option.bind_some, Option.bind_some]
    simp only [beq_self_eq_true, Bool.and_self, Bool.not_true, cond_false, cond_true]
    rw [wrap_up (by omega)]) (by
    unfold tocsinlaw13_whole_l18
    rw [decide_eq_false (by omega), cond_false])
  rw [h, if_pos (by simp)]
theorem known_true : tocsinlaw13_known = some true := tocsinlaw13_known_ev _ (by kernel_rfl)
end Go.Proofs.YtlhpclfkoblnkaaDoor
