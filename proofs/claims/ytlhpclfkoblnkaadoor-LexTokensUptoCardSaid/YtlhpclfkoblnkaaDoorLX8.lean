/- Plain laws: the document's scans are the lists'. -/
import Derived.Test.YtlhpclfkoblnkaaDoorLX7
import Derived.Test.YtlhpclfkoblnkaaDoorPB1t
set_option linter.unusedVariables false
set_option maxRecDepth 100000
namespace Go.Proofs.YtlhpclfkoblnkaaDoor
open Go.GB Go.Lib
theorem rblank_eq {c : Nat} (h : c < 256) : tocsinref13_blank (c : Int) = blankN c := fin_all (P := fun n => tocsinref13_blank (n : Int) = blankN n) (by unfold tocsinref13_blank; decide +kernel) h
theorem rlet_eq {c : Nat} (h : c < 256) : tocsinref13_letter (c : Int) = letN c := fin_all (P := fun n => tocsinref13_letter (n : Int) = letN n) (by unfold tocsinref13_letter; decide +kernel) h
theorem rdig_eq {c : Nat} (h : c < 256) : tocsinref13_digit (c : Int) = digN c := fin_all (P := fun n => tocsinref13_digit (n : Int) = digN n) (by unfold tocsinref13_digit; decide +kernel) h
theorem rhex_eq {c : Nat} (h : c < 256) : tocsinref13_hex (c : Int) = hexN c := fin_all (P := fun n => tocsinref13_hex (n : Int) = hexN n) (by unfold tocsinref13_hex tocsinref13_digit; decide +kernel) h
/-- a loop that goes on while bytes are of a kind -/
theorem while_eq {s : ByteArray} {body : Int → Option (Int ⊕ Int)} (p : Nat → Bool) (hs : s.size < 4294967296)
    (hb : ∀ k : Nat, k ≤ s.size → body (k : Int) = some (if k < s.size ∧ p (gB (tl s) k) = true then .inl ((k + 1 : Nat) : Int) else .inr (k : Int))) {a : Nat} (ha : a ≤ s.size) :
    loopO body (a : Int) = some ((a + runL p ((tl s).drop a) : Nat) : Int) := by
  have hl := tl_len s
  have := loop_runL (body := body) (l := tl s) (p := p) 0 (fun k hk => by rw [Nat.zero_add, hl]; exact hb k (by omega)) (s.size - a) a (by omega)
  rw [Nat.zero_add] at this
  exact this
theorem while_body {s : ByteArray} {p : Nat → Bool} {k : Nat} {j : Bool} (hs : s.size < 4294967296) (h0 : p 0 = false) (hj : j = p (gB (tl s) k)) (hk : k ≤ s.size) :
    (bif j then some (Sum.inl (IntKind.wrap .i64 ((k : Int) + 1))) else some (Sum.inr (k : Int)) : Option (Int ⊕ Int)) = some (if k < s.size ∧ p (gB (tl s) k) = true then .inl ((k + 1 : Nat) : Int) else .inr (k : Int)) := by
  have hl := tl_len s
  rw [wrapN (n := k + 1) (by omega) (by omega), hj]
  cases hc : p (gB (tl s) k) with
  | true =>
    have hi : k < s.size := by
      rcases Nat.lt_or_ge k s.size with h | h
      · exact h
      · rw [gB_out (by omega), h0] at hc; cases hc
    rw [cond_true, if_pos ⟨hi, rfl⟩]
  | false => rw [cond_false, if_neg (by simp)]
theorem rrun_eq {s : ByteArray} {a : Nat} (hs : s.size < 4294967296) (ha : a ≤ s.size) : tocsinref13_run s (a : Int) = some ((a + runL digN ((tl s).drop a) : Nat) : Int) := by
  unfold tocsinref13_run
  refine bind_of (while_eq digN hs (fun k hk => ?_) ha) rfl
  unfold tocsinref13_run_l16
  refine bind_of (at_if digN rfl (fun hi => by rw [rdig_eq (gB_lt _ _)])) ?_
  exact while_body hs rfl rfl hk
theorem rnumber_eq {s : ByteArray} {a : Nat} (hs : s.size < 4294967296) (ha : a < s.size) : tocsinref13_number s (a : Int) = some ((a + numL ((tl s).drop a) : Nat) : Int) := by
  have hl := tl_len s
  have eqc : ∀ (c k : Nat), (((c : Nat) : Int) == (k : Int)) = decide (c = k) := fun c k => by rw [Bool.eq_iff_iff, beq_iff_eq, decide_eq_true_eq]; omega
  unfold tocsinref13_number numL
  simp only [gB_drop, List.drop_drop, Nat.add_zero]
  have hrun2 : 0 < runL hexN ((tl s).drop (a + 2)) ↔ (a + 2 < s.size ∧ hexN (gB (tl s) (a + 2)) = true) := by
    rcases Nat.lt_or_ge (a + 2) (tl s).length with h | h
    · rw [runL_step h]
      split
      · rename_i hc; exact ⟨fun _ => ⟨by omega, hc⟩, fun _ => by omega⟩
      · rename_i hc; exact ⟨fun h => by omega, fun h => absurd h.2 hc⟩
    · rw [runL_out h]; exact ⟨fun h => by omega, fun h' => by omega⟩
  simp only [hrun2]
  refine bind_of (a := decide (gB (tl s) a = 48 ∧ (gB (tl s) (a + 1) = 120 ∨ gB (tl s) (a + 1) = 88) ∧ a + 2 < s.size ∧ hexN (gB (tl s) (a + 2)) = true)) ?_ ?_
  · rw [wrapN (n := a + 2) (by omega) (by omega)]
    by_cases h2 : a + 2 < s.size
    · rw [decide_eq_true (by omega), cond_true, bx_tl ha, Option.bind_some, wrapN (n := a + 1) (by omega) (by omega), bx_tl (i := a + 1) (by omega), bx_tl h2]
      simp only [Option.bind_some, rhex_eq (gB_lt _ _)]
      rw [show (((gB (tl s) a : Nat) : Int) == 48) = decide (gB (tl s) a = 48) from eqc _ 48, show (((gB (tl s) (a + 1) : Nat) : Int) == 120) = decide (gB (tl s) (a + 1) = 120) from eqc _ 120, show (((gB (tl s) (a + 1) : Nat) : Int) == 88) = decide (gB (tl s) (a + 1) = 88) from eqc _ 88]
      by_cases k1 : gB (tl s) a = 48 <;> by_cases k2 : gB (tl s) (a + 1) = 120 <;> by_cases k3 : gB (tl s) (a + 1) = 88 <;> by_cases k4 : hexN (gB (tl s) (a + 2)) = true <;> simp [k1, k2, k3, k4, h2]
    · rw [decide_eq_false (by omega), cond_false]
      congr 1; symm; rw [decide_eq_false_iff_not]; intro h; exact h2 h.2.2.1
  by_cases hH : gB (tl s) a = 48 ∧ (gB (tl s) (a + 1) = 120 ∨ gB (tl s) (a + 1) = 88) ∧ a + 2 < s.size ∧ hexN (gB (tl s) (a + 2)) = true
  · rw [decide_eq_true hH, cond_true, if_pos hH, wrapN (n := a + 2) (by omega) (by omega)]
    refine bind_of (while_eq hexN hs (fun k hk => ?_) (a := a + 2) (by omega)) (by rw [Nat.add_assoc])
    unfold tocsinref13_number_l36
    refine bind_of (at_if hexN rfl (fun hi => by rw [rhex_eq (gB_lt _ _)])) ?_
    exact while_body hs rfl rfl hk
  rw [decide_eq_false hH, cond_false, if_neg hH]
  have hA := runL_le digN ((tl s).drop a)
  rw [List.length_drop] at hA
  refine bind_of (rrun_eq hs (by omega)) ?_
  obtain ⟨A, hAe⟩ : ∃ A, runL digN ((tl s).drop a) = A := ⟨_, rfl⟩
  rw [hAe] at hA ⊢
  have hNA := numA_le (l := (tl s).drop a) (a := A) (by rw [List.length_drop]; omega)
  rw [List.length_drop] at hNA
  have hB := runL_le digN ((tl s).drop (a + A + 1))
  rw [List.length_drop] at hB
  have hnA : numA ((tl s).drop a) A = if gB (tl s) (a + A) = 46 then (if A + runL digN ((tl s).drop (a + A + 1)) = 0 then 0 else A + 1 + runL digN ((tl s).drop (a + A + 1))) else A := by
    unfold numA; rw [gB_drop, List.drop_drop, show a + (A + 1) = a + A + 1 from by omega]
  have hBd : 0 < runL digN ((tl s).drop (a + A + 1)) ↔ (a + A + 1 < s.size ∧ digN (gB (tl s) (a + A + 1)) = true) := by
    rcases Nat.lt_or_ge (a + A + 1) (tl s).length with h | h
    · rw [runL_step h]
      split
      · rename_i hc; exact ⟨fun _ => ⟨by omega, hc⟩, fun _ => by omega⟩
      · rename_i hc; exact ⟨fun h => by omega, fun h => absurd h.2 hc⟩
    · rw [runL_out h]; exact ⟨fun h => by omega, fun h' => by omega⟩
  refine bind_of (a := decide (gB (tl s) (a + A) = 46 ∧ (0 < A ∨ 0 < runL digN ((tl s).drop (a + A + 1))))) ?_ ?_
  · by_cases hi : a + A < s.size
    · rw [decide_eq_true (by omega), cond_true, bx_tl hi, Option.bind_some, show (((gB (tl s) (a + A) : Nat) : Int) == 46) = decide (gB (tl s) (a + A) = 46) from eqc _ 46]
      by_cases hd : gB (tl s) (a + A) = 46
      · rw [decide_eq_true hd, cond_true]
        by_cases h0 : 0 < A
        · rw [decide_eq_true (by omega), cond_true, decide_eq_true ⟨hd, .inl h0⟩]
        · rw [decide_eq_false (by omega), cond_false, wrapN (n := a + A + 1) (by omega) (by omega)]
          have := at_if (s := s) (i := a + A + 1) (f := fun c60 => some (tocsinref13_digit c60)) digN rfl (fun hi => by rw [rdig_eq (gB_lt _ _)])
          rw [this]
          congr 1
          rw [Bool.eq_iff_iff, decide_eq_true_eq, hBd]
          refine ⟨fun h => ⟨hd, .inr ⟨?_, h⟩⟩, fun h => ?_⟩
          · rcases Nat.lt_or_ge (a + A + 1) s.size with h' | h'
            · exact h'
            · rw [gB_out (by omega)] at h; cases h
          · rcases h.2 with h | h
            · exact absurd h h0
            · exact h.2
      · rw [decide_eq_false hd, cond_false]; congr 1; symm; rw [decide_eq_false_iff_not]; exact fun h => hd h.1
    · rw [decide_eq_false (by omega), cond_false]; congr 1; symm; rw [decide_eq_false_iff_not]
      intro h
      have := gB_in (l := tl s) (i := a + A) (by omega)
      omega
  refine bind_of (a := ((a + numA ((tl s).drop a) A : Nat) : Int)) ?_ ?_
  · rw [hnA]
    by_cases hc : gB (tl s) (a + A) = 46 ∧ (0 < A ∨ 0 < runL digN ((tl s).drop (a + A + 1)))
    · have hi := gB_in (l := tl s) (i := a + A) (by omega)
      rw [decide_eq_true hc, cond_true, if_pos hc.1, if_neg (by omega), wrapN (n := a + A + 1) (by omega) (by omega), rrun_eq hs (by omega), Option.bind_some]
      congr 2; omega
    · rw [decide_eq_false hc, cond_false]
      by_cases hd : gB (tl s) (a + A) = 46
      · have : ¬ (0 < A ∨ 0 < runL digN ((tl s).drop (a + A + 1))) := fun h => hc ⟨hd, h⟩
        rw [if_pos hd, if_pos (by omega)]
        congr 2; omega
      · rw [if_neg hd]
  obtain ⟨M, hM⟩ : ∃ M, numA ((tl s).drop a) A = M := ⟨_, rfl⟩
  rw [hM] at hNA ⊢
  rw [show (((a + M : Nat) : Int) == (a : Int)) = decide (M = 0) from by rw [Bool.eq_iff_iff, beq_iff_eq, decide_eq_true_eq]; omega]
  by_cases h0 : M = 0
  · rw [decide_eq_true h0, cond_true, if_pos h0]; rfl
  rw [decide_eq_false h0, cond_false, if_neg h0]
  have hexp : expL ((tl s).drop a) M = if gB (tl s) (a + M) = 101 ∨ gB (tl s) (a + M) = 69 then (if 0 < runL digN ((tl s).drop (a + expK ((tl s).drop a) M)) then expK ((tl s).drop a) M + runL digN ((tl s).drop (a + expK ((tl s).drop a) M)) else M) else M := by
    unfold expL; rw [gB_drop, List.drop_drop]
  rw [hexp]
  refine bind_of (a := decide (gB (tl s) (a + M) = 101 ∨ gB (tl s) (a + M) = 69)) ?_ ?_
  · exact at_if (fun c => decide (c = 101 ∨ c = 69)) rfl (fun hi => by
      rw [bx_tl hi, show (((gB (tl s) (a + M) : Nat) : Int) == 101) = decide (gB (tl s) (a + M) = 101) from eqc _ 101]
      simp only [Option.bind_some]
      rw [show (((gB (tl s) (a + M) : Nat) : Int) == 69) = decide (gB (tl s) (a + M) = 69) from eqc _ 69]
      by_cases h1 : gB (tl s) (a + M) = 101 <;> simp [h1])
  by_cases hE : gB (tl s) (a + M) = 101 ∨ gB (tl s) (a + M) = 69
  · rw [decide_eq_true hE, cond_true, if_pos hE]
    have hi := gB_in (l := tl s) (i := a + M) (by omega)
    have hKe : expK ((tl s).drop a) M = if gB (tl s) (a + M + 1) = 43 ∨ gB (tl s) (a + M + 1) = 45 then M + 2 else M + 1 := by
      unfold expK; rw [gB_drop, show a + (M + 1) = a + M + 1 from by omega]
    have hK := expK_le (l := (tl s).drop a) (n := M) (by rw [List.length_drop]; omega)
    rw [List.length_drop] at hK
    refine Eq.trans (b := (match (if 0 < runL digN ((tl s).drop (a + expK ((tl s).drop a) M)) then Sum.inr ((a + expK ((tl s).drop a) M + runL digN ((tl s).drop (a + expK ((tl s).drop a) M)) : Nat) : Int) else Sum.inl () : (Unit) ⊕ (Int)) with | Sum.inl _ => some ((a + M : Nat) : Int) | Sum.inr v => some v)) ?_ ?_
    · refine bind_of (a := if 0 < runL digN ((tl s).drop (a + expK ((tl s).drop a) M)) then Sum.inr ((a + expK ((tl s).drop a) M + runL digN ((tl s).drop (a + expK ((tl s).drop a) M)) : Nat) : Int) else Sum.inl ()) ?_ ?_
      · rw [wrapN (n := a + M + 1) (by omega) (by omega)]
        refine bind_of (a := decide (gB (tl s) (a + M + 1) = 43 ∨ gB (tl s) (a + M + 1) = 45)) ?_ ?_
        · exact at_if (fun c => decide (c = 43 ∨ c = 45)) rfl (fun hi => by
            rw [bx_tl hi, show (((gB (tl s) (a + M + 1) : Nat) : Int) == 43) = decide (gB (tl s) (a + M + 1) = 43) from eqc _ 43]
            simp only [Option.bind_some]
            rw [show (((gB (tl s) (a + M + 1) : Nat) : Int) == 45) = decide (gB (tl s) (a + M + 1) = 45) from eqc _ 45]
            by_cases h1 : gB (tl s) (a + M + 1) = 43 <;> simp [h1])
        refine bind_of (a := ((a + expK ((tl s).drop a) M : Nat) : Int)) ?_ ?_
        · rw [hKe]
          by_cases hS : gB (tl s) (a + M + 1) = 43 ∨ gB (tl s) (a + M + 1) = 45
          · rw [decide_eq_true hS, cond_true, if_pos hS, wrapN (n := a + (M + 2)) (by omega) (by omega)]
          · rw [decide_eq_false hS, cond_false, if_neg hS]; congr 2
        refine bind_of (rrun_eq hs (by omega)) ?_
        by_cases hr : 0 < runL digN ((tl s).drop (a + expK ((tl s).drop a) M))
        · rw [decide_eq_true (by omega), cond_true, if_pos hr, rrun_eq hs (by omega)]; rfl
        · rw [decide_eq_false (by omega), cond_false, if_neg hr]
      · rfl
    · by_cases hr : 0 < runL digN ((tl s).drop (a + expK ((tl s).drop a) M))
      · rw [if_pos hr, if_pos hr, Nat.add_assoc]
      · rw [if_neg hr, if_neg hr]
  · rw [decide_eq_false hE, cond_false, if_neg hE]; rfl
end Go.Proofs.YtlhpclfkoblnkaaDoor
