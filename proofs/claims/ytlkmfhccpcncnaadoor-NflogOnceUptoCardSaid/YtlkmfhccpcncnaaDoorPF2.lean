/- The plain law of NflogOnce: what was told is not told again until the repeat interval has gone by, but at once, if another alert fires. -/
import Derived.Test.YtlkmfhccpcncnaaDoorPF1
import Derived.Test.YtlkmfhccpcncnaaDoorGBR
set_option linter.unusedVariables false
set_option maxRecDepth 100000
namespace Go.Proofs.YtlkmfhccpcncnaaDoor
open Go.GB Go.Lib
theorem LogNeeds {m : S23} (hm : Wm m) (h0 : markE m = 0) {now rep : Int} (hn : 0 ≤ now ∧ now ≤ 1125899906842624) (hp : 1 ≤ rep ∧ rep ≤ 1099511627776) {f : Sets} (hf : Ws f) (kf : okSets f = true) :
    nflog_Log_Needs ⟨⟨[entOf m]⟩⟩ m.f0 m.f1 now rep f m.f4 = some (if inB f m.f3 = false then (true, 0) else if f.length = 0 then (decide (m.f3.length > 0), 0) else (decide (m.f2 ≤ now - rep), 0)) := by
  obtain ⟨_, _, _, _, _, _, k4⟩ := mark_parts h0
  unfold nflog_Log_Needs
  simp only [Find_self hm, Option.bind_some, Needs_told hm h0 hn hp hf hm.2 kf (rising_ok k4)]
  rw [show inB m.f4 m.f4 = true from inB_iff.2 fun x hx => hx]
  simp
theorem once_true {m : S23} (hm : Wm m) (rep wait : Int) {more : List S79} (hx : Wl more) : tocsinlaw26_NflogOnce m rep wait more = some true := by
  unfold tocsinlaw26_NflogOnce
  have hnew : (⟨(⟨nflog_New.f0.f0⟩ : S75)⟩ : S77) = ⟨⟨[]⟩⟩ := rfl
  rw [hnew, Put_nil hm]
  by_cases h0 : markE m = 0
  · rw [if_neg (by simpa using h0)]
    obtain ⟨_, _, ht, hl3, hl4, k3, k4⟩ := mark_parts h0
    simp only [Option.bind_some]
    by_cases hg : rep < 1 ∨ rep > 1099511627776 ∨ wait < 0 ∨ wait > 1099511627776 ∨ m.f2 > 1124800395214848
    · rw [show (((((((0 : Int) != 0) || decide (rep < 1)) || decide (rep > 1099511627776)) || decide (wait < 0)) || decide (wait > 1099511627776)) || decide (m.f2 > 1124800395214848)) = true by simpa [or_assoc] using hg]
      simp [awake_true]
    · have hg' : (1 ≤ rep ∧ rep ≤ 1099511627776) ∧ (0 ≤ wait ∧ wait ≤ 1099511627776) ∧ m.f2 ≤ 1124800395214848 := by omega
      obtain ⟨hp, hw, ha⟩ := hg'
      rw [show (((((((0 : Int) != 0) || decide (rep < 1)) || decide (rep > 1099511627776)) || decide (wait < 0)) || decide (wait > 1099511627776)) || decide (m.f2 > 1124800395214848)) = false by
        rw [Bool.eq_false_iff]; simpa [or_assoc] using hg]
      have hnow : IntKind.wrap .i64 (m.f2 + wait) = m.f2 + wait := wrap64 (by omega) (by omega)
      have hn : 0 ≤ m.f2 + wait ∧ m.f2 + wait ≤ 1125899906842624 := by omega
      have k3' := rising_ok k3
      have hself : inB m.f3 m.f3 = true := inB_iff.2 fun x hx => hx
      simp only [cond_false, hnow, LogNeeds hm h0 hn hp hm.1 k3', hself, Bool.true_eq_false, if_false, Option.bind_some]
      have hdec : decide (m.f2 ≤ m.f2 + wait - rep) = decide (wait ≥ rep) := by rw [Bool.eq_iff_iff]; simp; omega
      have hgoes : ∀ c : Bool, (if m.f3.length = 0 then (decide (m.f3.length > 0), (0 : Int)) else (decide (m.f2 ≤ m.f2 + wait - rep), 0)) = (decide ((m.f3.length : Int) > 0) && decide (wait ≥ rep), 0) := by
        intro _
        by_cases hl : m.f3.length = 0
        · simp [hl]
        · rw [if_neg hl, hdec, show decide ((m.f3.length : Int) > 0) = true from decide_eq_true (by omega)]; rfl
      rw [hgoes true]
      simp only [bne_self_eq_false, Bool.false_or, beq_self_eq_true, Bool.not_true, cond_false, Sorted_one hx]
      by_cases hr : (rightE more).1 = 0
      · rw [if_pos hr]
        have hfl : m.f3.length + [more].length ≤ 2147483648 := by simp; omega
        have hWs : Ws (m.f3 ++ [more]) := ⟨by simp; omega, fun x hx' => by
          rcases List.mem_append.1 hx' with h | h
          · exact hm.1.2 x h
          · simp at h; rw [h]; exact hx⟩
        have hok : okSets (m.f3 ++ [more]) = true := by
          unfold okSets at k3' ⊢
          rw [List.all_append, k3']
          simp [hr]
        have hWm : Ws [more] := ⟨by simp, fun x h => by simp at h; rw [h]; exact hx⟩
        simp only [Option.bind_some, bne_self_eq_false, cond_false, lent_eq hm.1, app_eq hfl, LogNeeds hm h0 hn hp hWs hok, LogNeeds hm h0 hn hp (show Ws ([] : Sets) from ⟨by simp, fun x h => by cases h⟩) (show okSets [] = true from rfl), refWithin_eq hWm hm.1.1]
        rw [show inB [] m.f3 = true from rfl]
        have hne : (m.f3 ++ [more]).length ≠ 0 := by simp
        by_cases hin : more ∈ m.f3
        · have e1 : inB (m.f3 ++ [more]) m.f3 = true := inB_iff.2 fun x hx' => by
            rcases List.mem_append.1 hx' with h | h
            · exact h
            · simp at h; rw [h]; exact hin
          have e2 : inB [more] m.f3 = true := inB_iff.2 fun x h => by simp at h; rw [h]; exact hin
          rw [e1, e2]
          simp [awake_true]
        · have e1 : inB (m.f3 ++ [more]) m.f3 = false := by
            rw [Bool.eq_false_iff]
            intro h
            exact hin (inB_iff.1 h more (by simp))
          have e2 : inB [more] m.f3 = false := by
            rw [Bool.eq_false_iff]
            intro h
            exact hin (inB_iff.1 h more (by simp))
          rw [e1, e2]
          simp [awake_true]
      · rw [if_neg hr]
        simp [awake_true]
  · rw [if_pos h0]
    have e : (markE m != 0) = true := by simpa using h0
    have e' : (markE m == 0) = false := by simpa using h0
    simp only [Option.bind_some, e, Bool.true_or, cond_true, e', cond_false, nflog_Log_Len, List.length_nil, awake_true]
    rfl
theorem Wl_read {x : List S79} {n : Nat} (h : wSl wS79 x n) (hn : n ≤ 1048576) : Wl x := by
  have := h.len
  unfold Wl
  omega
theorem tocsinlaw26_NflogOnce_true {I : Imm} {c0 c1 c2 c3 : List Value} {n0 n1 n2 n3 : Nat} (a0 : S23) (a1 a2 : Int) (a3 : List S79) (h0 : kS23.R I a0 c0) (h1 : (Kd.int .i64).R I a1 c1) (h2 : (Kd.int .i64).R I a2 c2) (h3 : (Kd.sl kS79).R I a3 c3) (w0 : wS23 a0 n0) (w1 : (wInt .i64) a1 n1) (w2 : (wInt .i64) a2 n2) (w3 : wSl wS79 a3 n3) (hn : n0 + n1 + n2 + n3 ≤ 1048576) : tocsinlaw26_NflogOnce a0 a1 a2 a3 = some true := by
  refine once_true ?_ a1 a2 (Wl_read w3 (by omega))
  obtain ⟨A4, c4, A5, c5, hf3, hf4, _⟩ := kS23_open h0
  refine ⟨⟨hf3.max, fun x hx => ?_⟩, ⟨hf4.max, fun x hx => ?_⟩⟩
  · obtain ⟨i, hi, rfl⟩ := List.mem_iff_getElem.1 hx
    obtain ⟨a, cs, _, hR, _⟩ := hf3.at_ i _ (List.getElem?_eq_getElem hi)
    obtain ⟨A', c', _, hr⟩ := sl_open hR
    exact hr.max
  · obtain ⟨i, hi, rfl⟩ := List.mem_iff_getElem.1 hx
    obtain ⟨a, cs, _, hR, _⟩ := hf4.at_ i _ (List.getElem?_eq_getElem hi)
    obtain ⟨A', c', _, hr⟩ := sl_open hR
    exact hr.max
end Go.Proofs.YtlkmfhccpcncnaaDoor
