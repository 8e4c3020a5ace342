/- Plain laws: the document's texts in quotes, its tokens; LexTokens. -/
import Derived.Test.YtlhpclfkoblnkaaDoorLX9
set_option linter.unusedVariables false
set_option maxRecDepth 100000
namespace Go.Proofs.YtlhpclfkoblnkaaDoor
open Go.GB Go.Lib
def rfin : (Unit) ⊕ (ByteArray × Int × Bool) → ByteArray × Int × Bool | .inl _ => (⟨#[]⟩, 0, false) | .inr v => v
theorem rvalid {s : ByteArray} (hs : s.size < 4294967296) : tocsinref01_Utf8 s = some (validD (tl s)) := refUtf8_eq (by omega)
set_option maxHeartbeats 1000000 in
theorem rtext_body {s : ByteArray} {a q i : Nat} {acc : List UInt8} (hs : s.size < 1073741824) (hi : i < s.size) (ha : a ≤ i) (hacc : acc.length ≤ i) (hq : q < 128) :
    tocsinref13_text_l27 s (a : Int) (q : Int) (bi acc, (i : Int)) =
      if gB (tl s) i = q then some (.inr (.inr (⟨acc.toArray⟩, ((i + 1 : Nat) : Int), validD acc && validD (((tl s).drop a).take (i - a)))))
      else if gB (tl s) i = 10 then some (.inr (.inr (⟨#[]⟩, 0, false)))
      else if gB (tl s) i = 92 then (match escL ((tl s).drop (i + 1)) with
        | none => some (.inr (.inr (⟨#[]⟩, 0, false)))
        | some (x, k) => some (.inl (bi (acc ++ [x]), ((i + 1 + k : Nat) : Int))))
      else some (.inl (bi (acc ++ [(tl s).getD i 0]), ((i + 1 : Nat) : Int))) := by
  have hl := tl_len s
  have eqc : ∀ (c k : Nat), (((c : Nat) : Int) == (k : Int)) = decide (c = k) := fun c k => by rw [Bool.eq_iff_iff, beq_iff_eq, decide_eq_true_eq]; omega
  have nec : ∀ (c k : Nat), (((c : Nat) : Int) != (k : Int)) = !decide (c = k) := fun c k => by rw [bne, eqc]
  unfold tocsinref13_text_l27
  rw [decide_eq_true (by show (i : Int) < (s.size : Int); omega), cond_true]
  simp only [bx_tl hi, Option.bind_some]
  have w1 : IntKind.wrap .i64 ((i : Int) + 1) = ((i + 1 : Nat) : Int) := wrapN (by omega) (by omega)
  simp only [w1]
  obtain ⟨c, hc⟩ : ∃ c, gB (tl s) i = c := ⟨_, rfl⟩
  have hcl : c < 256 := by rw [← hc]; exact gB_lt _ _
  rw [hc, eqc]
  by_cases h1 : c = q
  · rw [decide_eq_true h1, cond_true, if_pos h1]
    have hv1 : tocsinref01_Utf8 (ofBytes (bi acc)) = some (validD acc) := by
      rw [ofBytes_bi, rvalid (by show acc.toArray.size < _; simp; omega)]
    have hsx : sx s (a : Int) (i : Int) = some (s.extract a i) := sx_tl ha (by omega)
    have hv2 : tocsinref01_Utf8 (s.extract a i) = some (validD (((tl s).drop a).take (i - a))) := by
      rw [rvalid (by rw [← tl_len, tl_extract, List.length_take]; omega), tl_extract]
    rw [hv1, hsx, ofBytes_bi]
    simp only [Option.bind_some, hv2]
    cases validD acc <;> rfl
  rw [decide_eq_false h1, cond_false, if_neg h1]
  rw [show ((c : Int) == 10) = decide (c = 10) from eqc c 10]
  by_cases h2 : c = 10
  · rw [decide_eq_true h2, cond_true, if_pos h2]; rfl
  rw [decide_eq_false h2, cond_false, if_neg h2]
  rw [show ((c : Int) != 92) = !decide (c = 92) from nec c 92]
  by_cases h3 : c = 92
  · rw [decide_eq_true h3, if_pos h3]
    simp only [Bool.not_true, cond_false]
    by_cases hi1 : i + 1 < s.size
    · rw [decide_eq_false (show ¬ (((i + 1 : Nat) : Int) ≥ (s.size : Int)) by omega), cond_false, bx_tl hi1]
      simp only [Option.bind_some]
      obtain ⟨d, hd⟩ : ∃ d, gB (tl s) (i + 1) = d := ⟨_, rfl⟩
      have hdl : d < 256 := by rw [← hd]; exact gB_lt _ _
      have hg0 : gB ((tl s).drop (i + 1)) 0 = d := by rw [gB_drop, Nat.add_zero, hd]
      have hg1 : gB ((tl s).drop (i + 1)) 1 = gB (tl s) (i + 2) := by rw [gB_drop]
      have hg2 : gB ((tl s).drop (i + 1)) 2 = gB (tl s) (i + 3) := by rw [gB_drop]
      have hx : (((tl s).drop (i + 1)).getD 0 0).toNat = d := hg0
      rw [hd]
      unfold escL
      rw [hg0, hg1, hg2]
      rw [show ((d : Int) == 92) = decide (d = 92) from eqc d 92, show ((d : Int) == 34) = decide (d = 34) from eqc d 34, show ((d : Int) == 39) = decide (d = 39) from eqc d 39, show ((d : Int) == 110) = decide (d = 110) from eqc d 110, show ((d : Int) == 116) = decide (d = 116) from eqc d 116, show ((d : Int) == 114) = decide (d = 114) from eqc d 114, show ((d : Int) == 120) = decide (d = 120) from eqc d 120]
      have hap : ∀ x : Nat, app (bi acc) [((x : Nat) : Int)] = some (bi acc ++ [((x : Nat) : Int)]) := fun x => app_eq (by rw [bi_len]; simp; omega)
      have hbi : ∀ x : UInt8, bi acc ++ [((x.toNat : Nat) : Int)] = bi (acc ++ [x]) := fun x => by rw [bi_app]; rfl
      have w2 : IntKind.wrap .i64 (((i + 1 : Nat) : Int) + 1) = ((i + 2 : Nat) : Int) := wrapN (by omega) (by omega)
      have w3 : IntKind.wrap .i64 (((i + 1 : Nat) : Int) + 2) = ((i + 3 : Nat) : Int) := wrapN (by omega) (by omega)
      have w4 : IntKind.wrap .i64 (((i + 1 : Nat) : Int) + 3) = ((i + 4 : Nat) : Int) := wrapN (by omega) (by omega)
      have w5 : IntKind.wrap .i64 (((i + 3 : Nat) : Int) + 1) = ((i + 1 + 3 : Nat) : Int) := wrapN (by omega) (by omega)
      by_cases e0 : d = 92 ∨ d = 34 ∨ d = 39
      · have e1 : d ≠ 110 := by omega
        rw [if_neg e1, if_pos e0]
        have hjj : (bif decide (d = 92) then some (decide (d = 92)) else Option.bind (bif decide (d = 34) then some (decide (d = 34)) else some (decide (d = 39))) fun j76 => some j76) = some true := by rcases e0 with rfl | rfl | rfl <;> rfl
        rw [hjj]
        simp only [Option.bind_some, cond_true, hap, w2]
        rw [← hx, hbi]
      have hjj : (bif decide (d = 92) then some (decide (d = 92)) else Option.bind (bif decide (d = 34) then some (decide (d = 34)) else some (decide (d = 39))) fun j76 => some j76) = some false := by
        rw [not_or, not_or] at e0; simp [e0.1, e0.2.1, e0.2.2]
      rw [hjj]
      simp only [Option.bind_some, cond_false]
      by_cases e1 : d = 110
      · rw [if_pos e1, decide_eq_true e1]
        simp only [cond_true, show app (bi acc) [(10 : Int)] = some (bi acc ++ [(10 : Int)]) from hap 10, Option.bind_some, w2]
        rw [show bi acc ++ [(10 : Int)] = bi (acc ++ [10]) from hbi 10]
      rw [if_neg e1, if_neg e0, decide_eq_false e1]
      simp only [cond_false]
      by_cases e2 : d = 116
      · rw [if_pos e2, decide_eq_true e2]
        simp only [cond_true, show app (bi acc) [(9 : Int)] = some (bi acc ++ [(9 : Int)]) from hap 9, Option.bind_some, w2]
        rw [show bi acc ++ [(9 : Int)] = bi (acc ++ [9]) from hbi 9]
      rw [if_neg e2, decide_eq_false e2]
      simp only [cond_false]
      by_cases e3 : d = 114
      · rw [if_pos e3, decide_eq_true e3]
        simp only [cond_true, show app (bi acc) [(13 : Int)] = some (bi acc ++ [(13 : Int)]) from hap 13, Option.bind_some, w2]
        rw [show bi acc ++ [(13 : Int)] = bi (acc ++ [13]) from hbi 13]
      rw [if_neg e3, decide_eq_false e3]
      simp only [cond_false]
      by_cases e4 : d = 120
      · rw [decide_eq_true e4]
        simp only [cond_true, w3, w2, w4]
        by_cases h3' : i + 3 < s.size
        · rw [decide_eq_false (show ¬ (((i + 3 : Nat) : Int) ≥ (s.size : Int)) by omega)]
          simp only [cond_false, bx_tl (show i + 2 < s.size by omega), bx_tl h3', Option.bind_some, rhex_eq (gB_lt _ _)]
          by_cases g1 : hexN (gB (tl s) (i + 2)) = true
          · by_cases g2 : hexN (gB (tl s) (i + 3)) = true
            · by_cases g3 : gB (tl s) (i + 2) ≤ 55
              · rw [if_pos ⟨e4, g1, g2, g3⟩]
                have hsx : sx s ((i + 2 : Nat) : Int) ((i + 4 : Nat) : Int) = some (s.extract (i + 2) (i + 4)) := sx_tl (by omega) (by omega)
                have ht : tl (s.extract (i + 2) (i + 4)) = ((tl s).drop (i + 2)).take 2 := by rw [tl_extract, show i + 4 - (i + 2) = 2 from by omega]
                have hg0 : gB (tl (s.extract (i + 2) (i + 4))) 0 = gB (tl s) (i + 2) := by
                  rw [ht]; unfold gB; rw [List.getD_eq_getElem?_getD, List.getElem?_take, if_pos (by omega), List.getElem?_drop, ← List.getD_eq_getElem?_getD]
                have hg1 : gB (tl (s.extract (i + 2) (i + 4))) 1 = gB (tl s) (i + 3) := by
                  rw [ht]; unfold gB; rw [List.getD_eq_getElem?_getD, List.getElem?_take, if_pos (by omega), List.getElem?_drop, ← List.getD_eq_getElem?_getD]
                have hp := puint_eq (s := s.extract (i + 2) (i + 4)) (by rw [← tl_len, ht, List.length_take, List.length_drop]; omega) (by rw [hg0]; exact g1) (by rw [hg1]; exact g2)
                rw [hg0, hg1] at hp
                have v1 := hexV_lt g1
                have v2 := hexV_lt g2
                have v3 := (hexV_low g1).2 g3
                rw [decide_eq_false (show ¬ (((gB (tl s) (i + 2) : Nat) : Int) > 55) by omega)]
                simp only [g1, g2, Bool.not_true, cond_false, Option.bind_some, hsx, hp]
                rw [wrapU8 (by omega) (by omega), hap]
                simp only [Option.bind_some, w5]
                have := hbi (UInt8.ofNat (16 * hexV (gB (tl s) (i + 2)) + hexV (gB (tl s) (i + 3))))
                rw [UInt8.toNat_ofNat', Nat.mod_eq_of_lt (by omega)] at this
                rw [this]
              · rw [if_neg (fun h => g3 h.2.2.2), decide_eq_true (show ((gB (tl s) (i + 2) : Nat) : Int) > 55 by omega)]
                simp only [g1, g2, Bool.not_true, cond_false, cond_true, Option.bind_some]
            · rw [if_neg (fun h => g2 h.2.2.1)]
              rw [Bool.not_eq_true] at g2
              simp only [g1, g2, Bool.not_true, Bool.not_false, cond_false, cond_true, Option.bind_some]
          · rw [if_neg (fun h => g1 h.2.1)]
            rw [Bool.not_eq_true] at g1
            simp only [g1, Bool.not_false, cond_true, Option.bind_some]
        · rw [decide_eq_true (show (((i + 3 : Nat) : Int) ≥ (s.size : Int)) by omega), if_neg (fun h => by have := h.2.2.1; rw [gB_out (by omega)] at this; cases this)]
          simp only [cond_true, Option.bind_some]
      · rw [if_neg (fun h => e4 h.1), decide_eq_false e4]
        simp only [cond_false, Option.bind_some]
    · rw [decide_eq_true (show ((i + 1 : Nat) : Int) ≥ (s.size : Int) by omega), cond_true]
      have hg : ∀ k, gB ((tl s).drop (i + 1)) k = 0 := fun k => by rw [gB_drop]; exact gB_out (by omega)
      have : escL ((tl s).drop (i + 1)) = none := by unfold escL; simp only [hg]; rfl
      rw [this]; rfl
  · rw [decide_eq_false h3, if_neg h3]
    simp only [Bool.not_false, cond_true]
    have hx : ((tl s).getD i 0).toNat = c := hc
    rw [show app (bi acc) [(c : Int)] = some (bi acc ++ [(c : Int)]) from app_eq (by rw [bi_len]; simp; omega)]
    simp only [Option.bind_some, w1]
    rw [← hx, bi_app]; rfl
theorem rtext_loop {s : ByteArray} {a q : Nat} (hs : s.size < 1073741824) (hq : q < 128) : ∀ (m i : Nat) (acc : List UInt8), s.size - i = m → i ≤ s.size → a ≤ i → acc.length ≤ i →
    (loopO (tocsinref13_text_l27 s (a : Int) (q : Int)) (bi acc, (i : Int))).map rfin = some (match textR q ((tl s).drop i) with
      | some (o, n) => (⟨(acc ++ o).toArray⟩, ((i + n : Nat) : Int), validD (acc ++ o) && validD (((tl s).drop a).take (i + n - 1 - a)))
      | none => (⟨#[]⟩, 0, false)) := by
  intro m
  induction m using Nat.strongRecOn with
  | _ m ih =>
    intro i acc hm hi ha hacc
    have hl := tl_len s
    by_cases hlt : i < s.size
    · have hne : (tl s).drop i ≠ [] := by intro h; have := congrArg List.length h; rw [List.length_drop, List.length_nil] at this; omega
      have hbody := rtext_body (s := s) (a := a) (q := q) (i := i) (acc := acc) hs hlt ha hacc hq
      have hg : gB ((tl s).drop i) 0 = gB (tl s) i := by rw [gB_drop]; rfl
      rw [textR, dif_neg hne, hg]
      have step : ∀ (a' : List UInt8) (j : Nat), tocsinref13_text_l27 s (a : Int) (q : Int) (bi acc, (i : Int)) = some (.inl (bi a', ((j : Nat) : Int))) → i < j → j ≤ s.size → a'.length ≤ j → _ := fun a' j h1 h2 h3 h4 => by
        have := ih (s.size - j) (by omega) j a' rfl h3 (by omega) h4
        rw [← loopO_step h1] at this
        exact this
      by_cases h1 : gB (tl s) i = q
      · rw [if_pos h1] at hbody ⊢
        rw [loopO_done hbody]
        simp only [rfin, Option.map_some, List.append_nil, Nat.add_sub_cancel]
      rw [if_neg h1] at hbody ⊢
      by_cases h2 : gB (tl s) i = 10
      · rw [if_pos h2] at hbody ⊢
        rw [loopO_done hbody]; rfl
      rw [if_neg h2] at hbody ⊢
      by_cases h3 : gB (tl s) i = 92
      · rw [if_pos h3] at hbody ⊢
        rw [List.drop_drop]
        cases hk : escL ((tl s).drop (i + 1)) with
        | none =>
          rw [hk] at hbody
          rw [loopO_done hbody]; rfl
        | some xk =>
          obtain ⟨x, k⟩ := xk
          have hkl := escL_low hk
          rw [List.length_drop] at hkl
          rw [hk] at hbody
          simp only at hbody ⊢
          rw [step _ _ hbody (by omega) (by omega) (by simp; omega), List.drop_drop, show i + 1 + k = i + (1 + k) from by omega]
          cases textR q ((tl s).drop (i + (1 + k))) with
          | none => rfl
          | some on =>
            simp only [Option.map_some, List.append_assoc, List.singleton_append]
            rw [show i + (1 + k) + on.2 = i + (on.2 + (1 + k)) from by omega]
      · rw [if_neg h3] at hbody ⊢
        rw [step _ _ hbody (by omega) (by omega) (by simp; omega), List.drop_drop]
        have hgd : ((tl s).drop i).getD 0 0 = (tl s).getD i 0 := by rw [List.getD_eq_getElem?_getD, List.getElem?_drop, Nat.add_zero, ← List.getD_eq_getElem?_getD]
        rw [hgd]
        cases textR q ((tl s).drop (i + 1)) with
        | none => rfl
        | some on =>
          simp only [Option.map_some, List.append_assoc, List.singleton_append]
          rw [show i + 1 + on.2 = i + (on.2 + 1) from by omega]
    · have he : tocsinref13_text_l27 s (a : Int) (q : Int) (bi acc, (i : Int)) = some (.inr (.inl ())) := by
        unfold tocsinref13_text_l27
        rw [decide_eq_false (by show ¬ ((i : Int) < (s.size : Int)); omega)]; rfl
      rw [loopO_done he, List.drop_eq_nil_of_le (by omega), textR]
      rfl
theorem rtext_eq {s : ByteArray} {a : Nat} (hs : s.size < 1073741824) (ha : a < s.size) (hq : gB (tl s) a < 128) :
    tocsinref13_text s (a : Int) = some (match textR (gB (tl s) a) ((tl s).drop (a + 1)) with
      | some (o, n) => (⟨o.toArray⟩, ((a + 1 + n : Nat) : Int), validD o && validD (((tl s).drop (a + 1)).take (n - 1)))
      | none => (⟨#[]⟩, 0, false)) := by
  have hl := tl_len s
  unfold tocsinref13_text
  refine bind_of (bx_tl ha) ?_
  rw [wrapN (n := a + 1) (by omega) (by omega)]
  have h := rtext_loop (s := s) (a := a) hs hq _ (a + 1) [] rfl (by omega) (by omega) (by simp)
  obtain ⟨r, hr, hf⟩ := Option.map_eq_some_iff.1 h
  refine bind_of hr ?_
  refine Eq.trans (b := some (rfin r)) (by cases r <;> rfl) ?_
  rw [hf]
  cases ho : textR (gB (tl s) a) ((tl s).drop (a + 1)) with
  | none => rfl
  | some on =>
    obtain ⟨o, n⟩ := on
    have hp := textR_pos ho
    rw [List.length_drop] at hp
    simp only [List.nil_append]
    have e : validD (((tl s).drop a).take (a + 1 + n - 1 - a)) = validD (((tl s).drop (a + 1)).take (n - 1)) := by
      rw [show a + 1 + n - 1 - a = n - 1 + 1 from by omega, List.drop_eq_getElem_cons (show a < (tl s).length by omega), List.take_succ_cons]
      refine validD_cons _ _ ?_
      have : ((tl s)[a]'(by omega)).toNat = gB (tl s) a := by simp [gB, List.getD, List.getElem?_eq_getElem (show a < (tl s).length by omega)]
      omega
    rw [e]
end Go.Proofs.YtlhpclfkoblnkaaDoor
