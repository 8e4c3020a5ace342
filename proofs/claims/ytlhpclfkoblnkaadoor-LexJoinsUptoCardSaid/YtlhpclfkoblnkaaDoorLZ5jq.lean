/- Plain laws: the document's quoting and joining; LexJoins. -/
import Derived.Test.YtlhpclfkoblnkaaDoorLX9jq
import Derived.Test.YtlhpclfkoblnkaaDoorLX3jq
/- Plain laws: the document's texts in quotes, its tokens; LexTokens. -/
set_option linter.unusedVariables false
set_option maxRecDepth 100000
namespace Go.Proofs.YtlhpclfkoblnkaaDoor
open Go.GB Go.Lib
def rfin : (Unit) ⊕ (ByteArray × Int × Bool) → ByteArray × Int × Bool | .inl _ => (⟨#[]⟩, 0, false) | .inr v => v
theorem rvalid {s : ByteArray} (hs : s.size < 4294967296) : tocsinref01_Utf8 s = some (validD (tl s)) := refUtf8_eq (by omega)
set_option maxHeartbeats 1000000 in
theorem rtext_body {s : ByteArray} {a q i : Nat} {acc : List UInt8} (hs : s.size < 1073741824) (hi : i < s.size) (ha : a ≤ i) (hacc : acc.length ≤ i) (hq : q < 128) :
    tocsinref13_text_l27 s (a : Int) (q : Int) (bi acc, (i : Int)) =
      if gB (tl s) i = q then some (.inr (.inr (⟨acc.toArray⟩, ((i + 1 : Nat) : Int), validD acc && validD (((tl s).drop a).take (i - a)))))
      else if gB (tl s) i = 10 then some (.inr (.inr (⟨#[]⟩, 0, false)))
      else if gB (tl s) i = 92 then (match escL ((tl s).drop (i + 1)) with
        | none => some (.inr (.inr (⟨#[]⟩, 0, false)))
        | some (x, k) => some (.inl (bi (acc ++ [x]), ((i + 1 + k : Nat) : Int))))
      else some (.inl (bi (acc ++ [(tl s).getD i 0]), ((i + 1 : Nat) : Int))) := by
  have hl := tl_len s
  have eqc : ∀ (c k : Nat), (((c : Nat) : Int) == (k : Int)) = decide (c = k) := fun c k => by rw [Bool.eq_iff_iff, beq_iff_eq, decide_eq_true_eq]; omega
  have nec : ∀ (c k : Nat), (((c : Nat) : Int) != (k : Int)) = !decide (c = k) := fun c k => by rw [bne, eqc]
  unfold tocsinref13_text_l27
  rw [decide_eq_true (by show (i : Int) < (s.size : Int); omega), cond_true]
  simp only [bx_tl hi, Option.bind_some]
  have w1 : IntKind.wrap .i64 ((i : Int) + 1) = ((i + 1 : Nat) : Int) := wrapN (by omega) (by omega)
  simp only [w1]
  obtain ⟨c, hc⟩ : ∃ c, gB (tl s) i = c := ⟨_, rfl⟩
  have hcl : c < 256 := by rw [← hc]; exact gB_lt _ _
  rw [hc, eqc]
  by_cases h1 : c = q
  · rw [decide_eq_true h1, cond_true, if_pos h1]
    have hv1 : tocsinref01_Utf8 (ofBytes (bi acc)) = some (validD acc) := by
      rw [ofBytes_bi, rvalid (by show acc.toArray.size < _; simp; omega)]
    have hsx : sx s (a : Int) (i : Int) = some (s.extract a i) := sx_tl ha (by omega)
    have hv2 : tocsinref01_Utf8 (s.extract a i) = some (validD (((tl s).drop a).take (i - a))) := by
      rw [rvalid (by rw [← tl_len, tl_extract, List.length_take]; omega), tl_extract]
    rw [hv1, hsx, ofBytes_bi]
    simp only [Option.bind_some, hv2]
    cases validD acc <;> rfl
  rw [decide_eq_false h1, cond_false, if_neg h1]
  rw [show ((c : Int) == 10) = decide (c = 10) from eqc c 10]
  by_cases h2 : c = 10
  · rw [decide_eq_true h2, cond_true, if_pos h2]; rfl
  rw [decide_eq_false h2, cond_false, if_neg h2]
  rw [show ((c : Int) != 92) = !decide (c = 92) from nec c 92]
  by_cases h3 : c = 92
  · rw [decide_eq_true h3, if_pos h3]
    simp only [Bool.not_true, cond_false]
    by_cases hi1 : i + 1 < s.size
    · rw [decide_eq_false (show ¬ (((i + 1 : Nat) : Int) ≥ (s.size : Int)) by omega), cond_false, bx_tl hi1]
      simp only [Option.bind_some]
      obtain ⟨d, hd⟩ : ∃ d, gB (tl s) (i + 1) = d := ⟨_, rfl⟩
      have hdl : d < 256 := by rw [← hd]; exact gB_lt _ _
      have hg0 : gB ((tl s).drop (i + 1)) 0 = d := by rw [gB_drop, Nat.add_zero, hd]
      have hg1 : gB ((tl s).drop (i + 1)) 1 = gB (tl s) (i + 2) := by rw [gB_drop]
      have hg2 : gB ((tl s).drop (i + 1)) 2 = gB (tl s) (i + 3) := by rw [gB_drop]
      have hx : (((tl s).drop (i + 1)).getD 0 0).toNat = d := hg0
      rw [hd]
      unfold escL
      rw [hg0, hg1, hg2]
      rw [show ((d : Int) == 92) = decide (d = 92) from eqc d 92, show ((d : Int) == 34) = decide (d = 34) from eqc d 34, show ((d : Int) == 39) = decide (d = 39) from eqc d 39, show ((d : Int) == 110) = decide (d = 110) from eqc d 110, show ((d : Int) == 116) = decide (d = 116) from eqc d 116, show ((d : Int) == 114) = decide (d = 114) from eqc d 114, show ((d : Int) == 120) = decide (d = 120) from eqc d 120]
      have hap : ∀ x : Nat, app (bi acc) [((x : Nat) : Int)] = some (bi acc ++ [((x : Nat) : Int)]) := fun x => app_eq (by rw [bi_len]; simp; omega)
      have hbi : ∀ x : UInt8, bi acc ++ [((x.toNat : Nat) : Int)] = bi (acc ++ [x]) := fun x => by rw [bi_app]; rfl
      have w2 : IntKind.wrap .i64 (((i + 1 : Nat) : Int) + 1) = ((i + 2 : Nat) : Int) := wrapN (by omega) (by omega)
      have w3 : IntKind.wrap .i64 (((i + 1 : Nat) : Int) + 2) = ((i + 3 : Nat) : Int) := wrapN (by omega) (by omega)
      have w4 : IntKind.wrap .i64 (((i + 1 : Nat) : Int) + 3) = ((i + 4 : Nat) : Int) := wrapN (by omega) (by omega)
      have w5 : IntKind.wrap .i64 (((i + 3 : Nat) : Int) + 1) = ((i + 1 + 3 : Nat) : Int) := wrapN (by omega) (by omega)
      by_cases e0 : d = 92 ∨ d = 34 ∨ d = 39
      · have e1 : d ≠ 110 := by omega
        rw [if_neg e1, if_pos e0]
        have hjj : (bif decide (d = 92) then some (decide (d = 92)) else Option.bind (bif decide (d = 34) then some (decide (d = 34)) else some (decide (d = 39))) fun j76 => some j76) = some true := by rcases e0 with rfl | rfl | rfl <;> rfl
        rw [hjj]
        simp only [Option.bind_some, cond_true, hap, w2]
        rw [← hx, hbi]
      have hjj : (bif decide (d = 92) then some (decide (d = 92)) else Option.bind (bif decide (d = 34) then some (decide (d = 34)) else some (decide (d = 39))) fun j76 => some j76) = some false := by
        rw [not_or, not_or] at e0; simp [e0.1, e0.2.1, e0.2.2]
      rw [hjj]
      simp only [Option.bind_some, cond_false]
      by_cases e1 : d = 110
      · rw [if_pos e1, decide_eq_true e1]
        simp only [cond_true, show app (bi acc) [(10 : Int)] = some (bi acc ++ [(10 : Int)]) from hap 10, Option.bind_some, w2]
        rw [show bi acc ++ [(10 : Int)] = bi (acc ++ [10]) from hbi 10]
      rw [if_neg e1, if_neg e0, decide_eq_false e1]
      simp only [cond_false]
      by_cases e2 : d = 116
      · rw [if_pos e2, decide_eq_true e2]
        simp only [cond_true, show app (bi acc) [(9 : Int)] = some (bi acc ++ [(9 : Int)]) from hap 9, Option.bind_some, w2]
        rw [show bi acc ++ [(9 : Int)] = bi (acc ++ [9]) from hbi 9]
      rw [if_neg e2, decide_eq_false e2]
      simp only [cond_false]
      by_cases e3 : d = 114
      · rw [if_pos e3, decide_eq_true e3]
        simp only [cond_true, show app (bi acc) [(13 : Int)] = some (bi acc ++ [(13 : Int)]) from hap 13, Option.bind_some, w2]
        rw [show bi acc ++ [(13 : Int)] = bi (acc ++ [13]) from hbi 13]
      rw [if_neg e3, decide_eq_false e3]
      simp only [cond_false]
      by_cases e4 : d = 120
      · rw [decide_eq_true e4]
        simp only [cond_true, w3, w2, w4]
        by_cases h3' : i + 3 < s.size
        · rw [decide_eq_false (show ¬ (((i + 3 : Nat) : Int) ≥ (s.size : Int)) by omega)]
          simp only [cond_false, bx_tl (show i + 2 < s.size by omega), bx_tl h3', Option.bind_some, rhex_eq (gB_lt _ _)]
          by_cases g1 : hexN (gB (tl s) (i + 2)) = true
          · by_cases g2 : hexN (gB (tl s) (i + 3)) = true
            · by_cases g3 : gB (tl s) (i + 2) ≤ 55
              · rw [if_pos ⟨e4, g1, g2, g3⟩]
                have hsx : sx s ((i + 2 : Nat) : Int) ((i + 4 : Nat) : Int) = some (s.extract (i + 2) (i + 4)) := sx_tl (by omega) (by omega)
                have ht : tl (s.extract (i + 2) (i + 4)) = ((tl s).drop (i + 2)).take 2 := by rw [tl_extract, show i + 4 - (i + 2) = 2 from by omega]
                have hg0 : gB (tl (s.extract (i + 2) (i + 4))) 0 = gB (tl s) (i + 2) := by
                  rw [ht]; unfold gB; rw [List.getD_eq_getElem?_getD, List.getElem?_take, if_pos (by omega), List.getElem?_drop, ← List.getD_eq_getElem?_getD]
                have hg1 : gB (tl (s.extract (i + 2) (i + 4))) 1 = gB (tl s) (i + 3) := by
                  rw [ht]; unfold gB; rw [List.getD_eq_getElem?_getD, List.getElem?_take, if_pos (by omega), List.getElem?_drop, ← List.getD_eq_getElem?_getD]
                have hp := puint_eq (s := s.extract (i + 2) (i + 4)) (by rw [← tl_len, ht, List.length_take, List.length_drop]; omega) (by rw [hg0]; exact g1) (by rw [hg1]; exact g2)
                rw [hg0, hg1] at hp
                have v1 := hexV_lt g1
                have v2 := hexV_lt g2
                have v3 := (hexV_low g1).2 g3
                rw [decide_eq_false (show ¬ (((gB (tl s) (i + 2) : Nat) : Int) > 55) by omega)]
                simp only [g1, g2, Bool.not_true, cond_false, Option.bind_some, hsx, hp]
                rw [wrapU8 (by omega) (by omega), hap]
                simp only [Option.bind_some, w5]
                have := hbi (UInt8.ofNat (16 * hexV (gB (tl s) (i + 2)) + hexV (gB (tl s) (i + 3))))
                rw [UInt8.toNat_ofNat', Nat.mod_eq_of_lt (by omega)] at this
                rw [this]
              · rw [if_neg (fun h => g3 h.2.2.2), decide_eq_true (show ((gB (tl s) (i + 2) : Nat) : Int) > 55 by omega)]
                simp only [g1, g2, Bool.not_true, cond_false, cond_true, Option.bind_some]
            · rw [if_neg (fun h => g2 h.2.2.1)]
              rw [Bool.not_eq_true] at g2
              simp only [g1, g2, Bool.not_true, Bool.not_false, cond_false, cond_true, Option.bind_some]
          · rw [if_neg (fun h => g1 h.2.1)]
            rw [Bool.not_eq_true] at g1
            simp only [g1, Bool.not_false, cond_true, Option.bind_some]
        · rw [decide_eq_true (show (((i + 3 : Nat) : Int) ≥ (s.size : Int)) by omega), if_neg (fun h => by have := h.2.2.1; rw [gB_out (by omega)] at this; cases this)]
          simp only [cond_true, Option.bind_some]
      · rw [if_neg (fun h => e4 h.1), decide_eq_false e4]
        simp only [cond_false, Option.bind_some]
    · rw [decide_eq_true (show ((i + 1 : Nat) : Int) ≥ (s.size : Int) by omega), cond_true]
      have hg : ∀ k, gB ((tl s).drop (i + 1)) k = 0 := fun k => by rw [gB_drop]; exact gB_out (by omega)
      have : escL ((tl s).drop (i + 1)) = none := by unfold escL; simp only [hg]; rfl
      rw [this]; rfl
  · rw [decide_eq_false h3, if_neg h3]
    simp only [Bool.not_false, cond_true]
    have hx : ((tl s).getD i 0).toNat = c := hc
    rw [show app (bi acc) [(c : Int)] = some (bi acc ++ [(c : Int)]) from app_eq (by rw [bi_len]; simp; omega)]
    simp only [Option.bind_some, w1]
    rw [← hx, bi_app]; rfl
theorem rtext_loop {s : ByteArray} {a q : Nat} (hs : s.size < 1073741824) (hq : q < 128) : ∀ (m i : Nat) (acc : List UInt8), s.size - i = m → i ≤ s.size → a ≤ i → acc.length ≤ i →
    (loopO (tocsinref13_text_l27 s (a : Int) (q : Int)) (bi acc, (i : Int))).map rfin = some (match textR q ((tl s).drop i) with
      | some (o, n) => (⟨(acc ++ o).toArray⟩, ((i + n : Nat) : Int), validD (acc ++ o) && validD (((tl s).drop a).take (i + n - 1 - a)))
      | none => (⟨#[]⟩, 0, false)) := by
  intro m
  induction m using Nat.strongRecOn with
  | _ m ih =>
    intro i acc hm hi ha hacc
    have hl := tl_len s
    by_cases hlt : i < s.size
    · have hne : (tl s).drop i ≠ [] := by intro h; have := congrArg List.length h; rw [List.length_drop, List.length_nil] at this; omega
      have hbody := rtext_body (s := s) (a := a) (q := q) (i := i) (acc := acc) hs hlt ha hacc hq
      have hg : gB ((tl s).drop i) 0 = gB (tl s) i := by rw [gB_drop]; rfl
      rw [textR, dif_neg hne, hg]
      have step : ∀ (a' : List UInt8) (j : Nat), tocsinref13_text_l27 s (a : Int) (q : Int) (bi acc, (i : Int)) = some (.inl (bi a', ((j : Nat) : Int))) → i < j → j ≤ s.size → a'.length ≤ j → _ := fun a' j h1 h2 h3 h4 => by
        have := ih (s.size - j) (by omega) j a' rfl h3 (by omega) h4
        rw [← loopO_step h1] at this
        exact this
      by_cases h1 : gB (tl s) i = q
      · rw [if_pos h1] at hbody ⊢
        rw [loopO_done hbody]
        simp only [rfin, Option.map_some, List.append_nil, Nat.add_sub_cancel]
      rw [if_neg h1] at hbody ⊢
      by_cases h2 : gB (tl s) i = 10
      · rw [if_pos h2] at hbody ⊢
        rw [loopO_done hbody]; rfl
      rw [if_neg h2] at hbody ⊢
      by_cases h3 : gB (tl s) i = 92
      · rw [if_pos h3] at hbody ⊢
        rw [List.drop_drop]
        cases hk : escL ((tl s).drop (i + 1)) with
        | none =>
          rw [hk] at hbody
          rw [loopO_done hbody]; rfl
        | some xk =>
          obtain ⟨x, k⟩ := xk
          have hkl := escL_low hk
          rw [List.length_drop] at hkl
          rw [hk] at hbody
          simp only at hbody ⊢
          rw [step _ _ hbody (by omega) (by omega) (by simp; omega), List.drop_drop, show i + 1 + k = i + (1 + k) from by omega]
          cases textR q ((tl s).drop (i + (1 + k))) with
          | none => rfl
          | some on =>
            simp only [Option.map_some, List.append_assoc, List.singleton_append]
            rw [show i + (1 + k) + on.2 = i + (on.2 + (1 + k)) from by omega]
      · rw [if_neg h3] at hbody ⊢
        rw [step _ _ hbody (by omega) (by omega) (by simp; omega), List.drop_drop]
        have hgd : ((tl s).drop i).getD 0 0 = (tl s).getD i 0 := by rw [List.getD_eq_getElem?_getD, List.getElem?_drop, Nat.add_zero, ← List.getD_eq_getElem?_getD]
        rw [hgd]
        cases textR q ((tl s).drop (i + 1)) with
        | none => rfl
        | some on =>
          simp only [Option.map_some, List.append_assoc, List.singleton_append]
          rw [show i + 1 + on.2 = i + (on.2 + 1) from by omega]
    · have he : tocsinref13_text_l27 s (a : Int) (q : Int) (bi acc, (i : Int)) = some (.inr (.inl ())) := by
        unfold tocsinref13_text_l27
        rw [decide_eq_false (by show ¬ ((i : Int) < (s.size : Int)); omega)]; rfl
      rw [loopO_done he, List.drop_eq_nil_of_le (by omega), textR]
      rfl
theorem rtext_eq {s : ByteArray} {a : Nat} (hs : s.size < 1073741824) (ha : a < s.size) (hq : gB (tl s) a < 128) :
    tocsinref13_text s (a : Int) = some (match textR (gB (tl s) a) ((tl s).drop (a + 1)) with
      | some (o, n) => (⟨o.toArray⟩, ((a + 1 + n : Nat) : Int), validD o && validD (((tl s).drop (a + 1)).take (n - 1)))
      | none => (⟨#[]⟩, 0, false)) := by
  have hl := tl_len s
  unfold tocsinref13_text
  refine bind_of (bx_tl ha) ?_
  rw [wrapN (n := a + 1) (by omega) (by omega)]
  have h := rtext_loop (s := s) (a := a) hs hq _ (a + 1) [] rfl (by omega) (by omega) (by simp)
  obtain ⟨r, hr, hf⟩ := Option.map_eq_some_iff.1 h
  refine bind_of hr ?_
  refine Eq.trans (b := some (rfin r)) (by cases r <;> rfl) ?_
  rw [hf]
  cases ho : textR (gB (tl s) a) ((tl s).drop (a + 1)) with
  | none => rfl
  | some on =>
    obtain ⟨o, n⟩ := on
    have hp := textR_pos ho
    rw [List.length_drop] at hp
    simp only [List.nil_append]
    have e : validD (((tl s).drop a).take (a + 1 + n - 1 - a)) = validD (((tl s).drop (a + 1)).take (n - 1)) := by
      rw [show a + 1 + n - 1 - a = n - 1 + 1 from by omega, List.drop_eq_getElem_cons (show a < (tl s).length by omega), List.take_succ_cons]
      refine validD_cons _ _ ?_
      have : ((tl s)[a]'(by omega)).toNat = gB (tl s) a := by simp [gB, List.getD, List.getElem?_eq_getElem (show a < (tl s).length by omega)]
      omega
    rw [e]
end Go.Proofs.YtlhpclfkoblnkaaDoor

/- Plain laws: one token and all tokens, as the document has them. -/
set_option linter.unusedVariables false
set_option maxRecDepth 100000
namespace Go.Proofs.YtlhpclfkoblnkaaDoor
open Go.GB Go.Lib
def roneOk (l : List UInt8) (a : Nat) (r : S27 × Int × Bool) : Prop := match oneL l with
  | none => r.2.2 = false
  | some (k, t, n) => r = (⟨(k : Int), ⟨t.toArray⟩, (a : Int)⟩, ((a + n : Nat) : Int), true)
theorem extract_ba2 {s : ByteArray} {a n : Nat} : s.extract a (a + n) = ⟨(((tl s).drop a).take n).toArray⟩ := by
  apply ba_eq
  show tl (s.extract a (a + n)) = ((tl s).drop a).take n
  rw [tl_extract, show a + n - a = n from by omega]
theorem rident_if {s : ByteArray} {n : Nat} : (bif decide ((n : Int) < (s.size : Int)) then Option.bind (bx s (n : Int)) fun c75 => bif tocsinref13_letter c75 then some true else Option.bind (bx s (n : Int)) fun c78 => bif tocsinref13_digit c78 then some true else Option.bind (bx s (n : Int)) fun c81 => some (c81 == 46) else some false) = some (identN (gB (tl s) n)) := by
  refine at_if identN rfl (fun hi => ?_)
  have hb := gB_lt (tl s) n
  rw [rlet_eq hb, bx_tl hi]
  simp only [Option.bind_some, rdig_eq hb]
  unfold identN
  have e1 : (((gB (tl s) n : Nat) : Int) == 46) = decide (gB (tl s) n = 46) := by rw [Bool.eq_iff_iff, beq_iff_eq, decide_eq_true_eq]; omega
  rw [e1]
  cases letN (gB (tl s) n) <;> cases digN (gB (tl s) n) <;> rfl
theorem rone_eq {s : ByteArray} {a : Nat} (hs : s.size < 536870912) (ha : a < s.size) : ∃ r, tocsinref13_one s (a : Int) = some r ∧ roneOk ((tl s).drop a) a r := by
  have hl := tl_len s
  have hb := gB_lt (tl s) a
  have hg : gB ((tl s).drop a) 0 = gB (tl s) a := by rw [gB_drop]; rfl
  have eqc : ∀ (c k : Nat), (((c : Nat) : Int) == (k : Int)) = decide (c = k) := fun c k => by rw [Bool.eq_iff_iff, beq_iff_eq, decide_eq_true_eq]; omega
  unfold tocsinref13_one roneOk oneL
  rw [hg, bx_tl ha, Option.bind_some, rlet_eq hb]
  by_cases c1 : letN (gB (tl s) a) = true
  · rw [c1, cond_true, if_pos rfl]
    have hr := while_eq (s := s) (body := tocsinref13_one_l20 s) (fun c => letN c || digN c) (by omega) (fun k hk => by
      unfold tocsinref13_one_l20
      refine bind_of (at_if (fun c => letN c || digN c) rfl (fun hi => by
        rw [rlet_eq (gB_lt _ _), bx_tl hi]
        simp only [Option.bind_some, rdig_eq (gB_lt _ _)]
        cases letN (gB (tl s) k) <;> rfl)) ?_
      exact while_body (p := fun c => letN c || digN c) (by omega) rfl rfl hk) (a := a) (by omega)
    rw [hr, Option.bind_some]
    have hle := runL_le (fun c => letN c || digN c) ((tl s).drop a)
    rw [List.length_drop] at hle
    rw [sx_tl (by omega) (by omega), Option.bind_some, extract_ba2]
    exact ⟨_, rfl, rfl⟩
  rw [Bool.not_eq_true] at c1
  rw [c1, cond_false, if_neg (by simp)]
  rw [show (((gB (tl s) a : Nat) : Int) == 34) = decide (gB (tl s) a = 34) from eqc _ 34, show (((gB (tl s) a : Nat) : Int) == 39) = decide (gB (tl s) a = 39) from eqc _ 39]
  by_cases c3 : gB (tl s) a = 34 ∨ gB (tl s) a = 39
  · have hd : ¬ (digN (gB (tl s) a) = true ∨ gB (tl s) a = 46) := by unfold digN; simp; omega
    rw [show (decide (gB (tl s) a = 34) || decide (gB (tl s) a = 39)) = true from by rcases c3 with h | h <;> simp [h], cond_true, if_neg hd, if_pos c3, rtext_eq (by omega) ha (by omega), Option.bind_some, List.drop_drop, textP_eq (by omega)]
    cases textR (gB (tl s) a) ((tl s).drop (a + 1)) with
    | none => exact ⟨_, rfl, rfl⟩
    | some on =>
      obtain ⟨o, n⟩ := on
      refine ⟨_, rfl, ?_⟩
      simp only
      by_cases hv : validD o = true ∧ validD (((tl s).drop (a + 1)).take (n - 1)) = true
      · rw [if_pos hv, hv.1, hv.2]
        simp only [Option.map_some]
        rw [show a + 1 + n = a + (n + 1) from by omega]; rfl
      · rw [if_neg hv]
        simp only [Option.map_none]
        cases h1 : validD o with
        | false => rfl
        | true =>
          cases h2 : validD (((tl s).drop (a + 1)).take (n - 1)) with
          | false => rfl
          | true => exact absurd ⟨h1, h2⟩ hv
  have c3a : (decide (gB (tl s) a = 34) || decide (gB (tl s) a = 39)) = false := by
    rw [not_or] at c3; simp [c3.1, c3.2]
  rw [c3a, cond_false, rdig_eq hb, show (((gB (tl s) a : Nat) : Int) == 46) = decide (gB (tl s) a = 46) from eqc _ 46]
  by_cases c2 : digN (gB (tl s) a) = true ∨ gB (tl s) a = 46
  · rw [show (digN (gB (tl s) a) || decide (gB (tl s) a = 46)) = true from by rcases c2 with h | h <;> simp [h], cond_true, if_pos c2, rnumber_eq (by omega) ha, Option.bind_some, rspan_eq (by omega) (by omega), Option.bind_some, numTok_rel]
    have hnl := numL_le ((tl s).drop a)
    have hsl := spanRGo_le 8 ((tl s).drop a) 0
    rw [show spanRGo 8 ((tl s).drop a) 0 = spanR ((tl s).drop a) from rfl] at hsl
    rw [List.length_drop] at hnl hsl
    have hN : ∀ m, numTok ((tl s).drop a) m = if (if m > numL ((tl s).drop a) then m else numL ((tl s).drop a)) = 0 ∨ identN (gB ((tl s).drop a) (if m > numL ((tl s).drop a) then m else numL ((tl s).drop a))) = true then none else some (if m > numL ((tl s).drop a) then 3 else 2, ((tl s).drop a).take (if m > numL ((tl s).drop a) then m else numL ((tl s).drop a)), (if m > numL ((tl s).drop a) then m else numL ((tl s).drop a))) := fun m => rfl
    rw [hN, gB_drop]
    clear hN
    generalize spanR ((tl s).drop a) = m at *
    generalize numL ((tl s).drop a) = n at *
    have hj : (bif decide (((a + m : Nat) : Int) > ((a + n : Nat) : Int)) then some (((a + m : Nat) : Int), (3 : Int)) else some (((a + n : Nat) : Int), 2)) = some (((a + (if m > n then m else n) : Nat) : Int), (((if m > n then 3 else 2) : Nat) : Int)) := by
      by_cases h : m > n
      · rw [decide_eq_true (by omega), if_pos h, if_pos h]; rfl
      · rw [decide_eq_false (by omega), if_neg h, if_neg h]; rfl
    rw [hj, Option.bind_some]
    have hel : (if m > n then m else n) ≤ s.size - a := by split <;> omega
    generalize (if m > n then m else n) = e at *
    generalize (if m > n then 3 else 2) = k at *
    simp only
    rw [show (((a + e : Nat) : Int) == (a : Int)) = decide (e = 0) from by rw [Bool.eq_iff_iff, beq_iff_eq, decide_eq_true_eq]; omega]
    by_cases he : e = 0
    · rw [decide_eq_true he, cond_true, Option.bind_some, cond_true, if_pos (Or.inl he)]
      exact ⟨_, rfl, rfl⟩
    rw [decide_eq_false he, cond_false, rident_if, Option.bind_some]
    by_cases hc : identN (gB (tl s) (a + e)) = true
    · rw [hc, cond_true, if_pos (Or.inr rfl)]
      exact ⟨_, rfl, rfl⟩
    · rw [Bool.not_eq_true] at hc
      rw [hc, cond_false, sx_tl (by omega) (by omega), Option.bind_some, extract_ba2, if_neg (by simp [he])]
      exact ⟨_, rfl, rfl⟩
  have c2a : (digN (gB (tl s) a) || decide (gB (tl s) a = 46)) = false := by
    rw [not_or] at c2; simp [c2.1, c2.2]
  rw [c2a, cond_false, if_neg c2, if_neg c3, rsign_eq (by omega) (by omega), Option.bind_some]
  cases ho : signL ((tl s).drop a) with
  | none =>
    refine ⟨_, rfl, ?_⟩
    show (!((⟨#[]⟩ : ByteArray).toList == (⟨#[]⟩ : ByteArray).toList)) = false
    rw [beq_self_eq_true]; rfl
  | some x =>
    have ho2 := ho
    unfold signL at ho2
    have h3 := List.mem_of_find?_eq_some ho2
    have h3b := List.find?_some ho2
    have h4 := (List.isPrefixOf_iff_prefix.1 h3b).length_le
    rw [List.length_drop] at h4
    have h5 : ∀ x ∈ signsL, 1 ≤ x.length := by decide
    have h6 := h5 x h3
    refine ⟨_, rfl, ?_⟩
    simp only [Option.map_some]
    have hsz : (⟨x.toArray⟩ : ByteArray).size = x.length := by rw [← tl_len]
    rw [hsz, wrapN (n := a + x.length) (by omega) (by omega), nil_size, hsz, decide_eq_false (by omega)]
    rfl
theorem whole_self {l : List S27} (hl : l.length ≤ 2147483648) : tocsinlaw13_whole l l = some true := by
  unfold tocsinlaw13_whole
  rw [show (((l.length : Nat) : Int) != ((l.length : Nat) : Int)) = false from by simp, cond_false]
  refine bind_of (a := .inl ()) ?_ rfl
  have h := up_all (body := tocsinlaw13_whole_l18 l l) (n := l.length) (fun _ => true) (fun i hi => by
    unfold tocsinlaw13_whole_l18
    rw [decide_eq_true (by omega), cond_true, ix_nat, List.getElem?_eq_getElem hi, Option.bind_some, Option.bind_some]
    simp only [beq_self_eq_true, Bool.and_self, Bool.not_true, cond_false, cond_true]
    rw [wrap_up (by omega)]) (by
    unfold tocsinlaw13_whole_l18
    rw [decide_eq_false (by omega), cond_false])
  rw [h, if_pos (by simp)]
theorem known_true : tocsinlaw13_known = some true := tocsinlaw13_known_ev _ (by kernel_rfl)
end Go.Proofs.YtlhpclfkoblnkaaDoor

/- Plain laws: a token hangs on its own bytes and on what stands right behind it. -/
set_option linter.unusedVariables false
namespace Go.GB
open Go.Lib
theorem runL_stop {p : Nat → Bool} (h0 : p 0 = false) (l : List UInt8) : p (gB l (runL p l)) = false := by
  rcases Nat.lt_or_ge (runL p l) l.length with h | h
  · exact runL_end h
  · rw [gBn_out h, h0]
end Go.GB

/- Plain laws: a token hangs on its own bytes and on what stands right behind it: any token; a text that is cut. -/
set_option linter.unusedVariables false
namespace Go.GB
open Go.Lib
theorem signsL_down : signsL.Pairwise (fun x y => y.length ≤ x.length) := by decide
theorem signL_some {l x : List UInt8} (h : signL l = some x) : x ∈ signsL ∧ x <+: l ∧ ∀ y ∈ signsL, y <+: l → y.length ≤ x.length := by
  unfold signL at h
  have h0 := h
  rw [List.find?_eq_some_iff_append] at h
  obtain ⟨hp, as1, bs, he, hn⟩ := h
  refine ⟨List.mem_of_find?_eq_some h0, List.isPrefixOf_iff_prefix.1 hp, fun y hy hyl => ?_⟩
  have hd := signsL_down
  rw [he] at hy hd
  rcases List.mem_append.1 hy with hy | hy
  · have := hn y hy
    rw [List.isPrefixOf_iff_prefix.2 hyl] at this; cases this
  · rcases List.mem_cons.1 hy with rfl | hy
    · exact Nat.le_refl _
    · rw [List.pairwise_append] at hd
      exact (List.pairwise_cons.1 hd.2.1).1 y hy
/-- what may stand behind a token so that it ends there -/
def endsAt (k : Nat) (l : List UInt8) (n : Nat) : Prop :=
  (k = 1 → (letN (gB l n) || digN (gB l n)) = false) ∧ (k = 2 ∨ k = 3 → identN (gB l n) = false) ∧ (k = 5 → ∀ y ∈ signsL, y <+: l → y.length ≤ n)
theorem oneL_kind {l t : List UInt8} {k n : Nat} (h : oneL l = some (k, t, n)) : 1 ≤ k ∧ k ≤ 5 ∧ (k ≠ 4 → t = l.take n) ∧ endsAt k l n := by
  unfold oneL at h
  by_cases c1 : letN (gB l 0) = true
  · rw [if_pos c1] at h
    simp only [Option.some.injEq, Prod.mk.injEq] at h
    obtain ⟨rfl, rfl, rfl⟩ := h
    exact ⟨by omega, by omega, fun _ => rfl, fun _ => runL_stop (p := fun c => letN c || digN c) rfl l, fun h => by omega, fun h => by omega⟩
  rw [if_neg c1] at h
  by_cases c2 : digN (gB l 0) = true ∨ gB l 0 = 46
  · rw [if_pos c2] at h
    obtain ⟨h1, h2, h3, h4, h5, h6⟩ := numTok_some (spanL_le l) h
    have : k = 2 ∨ k = 3 := by rw [h6]; split <;> simp
    exact ⟨by omega, by omega, fun _ => h3, fun h => by omega, fun _ => h4, fun h => by omega⟩
  rw [if_neg c2] at h
  by_cases c3 : gB l 0 = 34 ∨ gB l 0 = 39
  · rw [if_pos c3] at h
    obtain ⟨on, h1, h2⟩ := Option.map_eq_some_iff.1 h
    simp only [Prod.mk.injEq] at h2
    obtain ⟨rfl, _, _⟩ := h2
    exact ⟨by omega, by omega, fun h => absurd rfl h, fun h => by omega, fun h => by omega, fun h => by omega⟩
  rw [if_neg c3] at h
  obtain ⟨x, h1, h2⟩ := Option.map_eq_some_iff.1 h
  simp only [Prod.mk.injEq] at h2
  obtain ⟨rfl, rfl, rfl⟩ := h2
  have h3 := signL_some h1
  exact ⟨by omega, by omega, fun _ => List.prefix_iff_eq_take.1 h3.2.1, fun h => by omega, fun h => by omega, fun _ => h3.2.2⟩
/-! ### blanks -/
/-! ### the tokens of a text that is cut ahead of one of them -/
end Go.GB

/- Plain laws: quoting, joining, over lists. -/
set_option linter.unusedVariables false
namespace Go.GB
open Go.Lib
def hxB (d : Nat) : UInt8 := if d < 10 then UInt8.ofNat (48 + d) else UInt8.ofNat (87 + d)
/-- a byte as it is written in quotes -/
def qB (c : UInt8) : List UInt8 :=
  if c.toNat = 92 ∨ c.toNat = 34 then [92, c] else if c.toNat = 10 then [92, 110] else if c.toNat = 9 then [92, 116] else if c.toNat = 13 then [92, 114]
  else if c.toNat < 32 ∨ c.toNat = 127 then [92, 120, hxB (c.toNat / 16), hxB (c.toNat % 16)] else [c]
def quoteL (l : List UInt8) : List UInt8 := 34 :: l.flatMap qB ++ [34]
theorem qB_len (c : UInt8) : (qB c).length ≤ 4 := by unfold qB; (repeat' split) <;> simp
theorem flat_len (l : List UInt8) : (l.flatMap qB).length ≤ 4 * l.length := by
  induction l with
  | nil => simp
  | cons c l ih => rw [List.flatMap_cons, List.length_append, List.length_cons]; have := qB_len c; omega
theorem quoteL_len (l : List UInt8) : (quoteL l).length ≤ 4 * l.length + 2 := by unfold quoteL; have := flat_len l; rw [List.length_append, List.length_cons, List.length_singleton]; omega
def aloneL (l : List UInt8) (k : Int) : Bool := match oneL l with
  | some (kd, _, n) => decide (n = l.length ∧ (kd : Int) = k)
  | none => false
theorem oneL_nil : oneL [] = none := by
  unfold oneL; simp [gB, letN, digN]; unfold signL; decide
theorem aloneL_true {l : List UInt8} {k : Int} (h : aloneL l k = true) : ∃ kd t, oneL l = some (kd, t, l.length) ∧ (kd : Int) = k := by
  unfold aloneL at h
  cases ho : oneL l with
  | none => rw [ho] at h; cases h
  | some x =>
    obtain ⟨kd, t, n⟩ := x
    rw [ho] at h
    simp only [decide_eq_true_eq] at h
    exact ⟨kd, t, by rw [h.1], h.2⟩
/-- a token as it is written -/
def wordL (k : Int) (t : List UInt8) : Option (List UInt8) :=
  if k = 4 then (if validD t = true then some (quoteL t) else none) else if aloneL t k = true then some t else none
theorem wordL_len {k : Int} {t w : List UInt8} (h : wordL k t = some w) : w.length ≤ 4 * t.length + 2 := by
  unfold wordL at h
  split at h
  · split at h
    · cases h; exact quoteL_len t
    · cases h
  · split at h
    · cases h; omega
    · cases h
/-- words, one behind the other; the i-th one is the first -/
def extL : Nat → List UInt8 → List (List UInt8) → List UInt8
  | _, acc, [] => acc
  | i, acc, w :: ws => extL (i + 1) ((if i > 0 then acc ++ [32] else acc) ++ w) ws
theorem extL_len : ∀ (ws : List (List UInt8)) (i : Nat) (acc : List UInt8), acc.length ≤ (extL i acc ws).length
  | [], _, _ => Nat.le_refl _
  | w :: ws, i, acc => by
    unfold extL
    refine Nat.le_trans ?_ (extL_len ws (i + 1) _)
    split <;> simp <;> omega
def wordsL (key : List (Int × List UInt8)) : Option (List (List UInt8)) := match key with
  | [] => some []
  | (k, t) :: r => match wordL k t with
    | none => none
    | some w => match wordsL r with
      | none => none
      | some ws => some (w :: ws)
theorem wordL_end (t : List UInt8) : wordL 0 t = none := by
  unfold wordL
  rw [if_neg (by omega), if_neg]
  intro h
  obtain ⟨kd, t', h1, h2⟩ := aloneL_true h
  have := (oneL_kind h1).1
  omega
def wtL : List (Int × List UInt8) → Nat
  | [] => 0
  | (_, t) :: r => t.length + 1 + wtL r
/-- what joined tokens come to: a text, and what is wrong -/
def joinS (key : List (Int × List UInt8)) : List UInt8 × Int := match wordsL key with
  | none => ([], 130)
  | some ws => if (extL 0 [] ws).length > 65536 then ([], 4) else if key.length + 1 > 4096 then ([], 7) else (extL 0 [] ws, 0)
end Go.GB

/- Plain laws: the program's quoting and joining. -/
set_option linter.unusedVariables false
set_option maxRecDepth 100000
namespace Go.GB
open Go.Lib
theorem hexdig : ∀ d : Fin 16, bx (⟨#[48, 49, 50, 51, 52, 53, 54, 55, 56, 57, 97, 98, 99, 100, 101, 102]⟩ : ByteArray) ((d.val : Nat) : Int) = some (((hxB d.val).toNat : Nat) : Int) := by decide +kernel
theorem hexdig' {d : Nat} (h : d < 16) : bx (⟨#[48, 49, 50, 51, 52, 53, 54, 55, 56, 57, 97, 98, 99, 100, 101, 102]⟩ : ByteArray) ((d : Nat) : Int) = some (((hxB d).toNat : Nat) : Int) := hexdig ⟨d, h⟩
theorem ix_bi {l : List UInt8} {i : Nat} (h : i < l.length) : ix (bi l) (i : Int) = some (((l[i]).toNat : Nat) : Int) := by
  rw [ix_nat]; unfold bi; rw [List.getElem?_map, List.getElem?_eq_getElem h]; rfl
theorem app_bi {a b : List UInt8} (h : a.length + b.length ≤ 2147483648) : app (bi a) (bi b) = some (bi (a ++ b)) := by
  rw [app_eq (by rw [bi_len, bi_len]; exact h), bi_app]
theorem tl_mk (l : List UInt8) : tl (⟨l.toArray⟩ : ByteArray) = l := by simp
theorem ofBytes_bi' (l : List UInt8) : ofBytes (bi l) = ⟨l.toArray⟩ := by
  apply ba_eq
  rw [ofBytes_toList]
  unfold bi
  rw [List.map_map]
  show _ = l
  conv => rhs; rw [← List.map_id l]
  refine List.map_congr_left fun c _ => ?_
  show UInt8.ofNat (((c.toNat : Nat) : Int)).toNat = c
  rw [Int.toNat_natCast, UInt8.ofNat_toNat]
/-- the way that a byte is quoted, as both of them have it -/
theorem quote_step {acc : List UInt8} {c : UInt8} {s1 s2 s3 : List Int} (h : acc.length + 4 ≤ 2147483648) (e1 : s1 = [92, 110]) (e2 : s2 = [92, 116]) (e3 : s3 = [92, 114]) :
    (Option.bind (bif ((((c.toNat : Nat) : Int) == 92) || (((c.toNat : Nat) : Int) == 34)) then (Option.bind (app (bi acc) [92, ((c.toNat : Nat) : Int)]) fun (zs71 : List Int) => some zs71)
      else (Option.bind (bif (((c.toNat : Nat) : Int) == 10) then (Option.bind (app (bi acc) s1) fun (zs87 : List Int) => some zs87)
        else (Option.bind (bif (((c.toNat : Nat) : Int) == 9) then (Option.bind (app (bi acc) s2) fun (zs103 : List Int) => some zs103)
          else (Option.bind (bif (((c.toNat : Nat) : Int) == 13) then (Option.bind (app (bi acc) s3) fun (zs119 : List Int) => some zs119)
            else (Option.bind (bif ((decide (((c.toNat : Nat) : Int) < 32)) || (((c.toNat : Nat) : Int) == 127)) then
                (Option.bind (bx (⟨#[48, 49, 50, 51, 52, 53, 54, 55, 56, 57, 97, 98, 99, 100, 101, 102]⟩ : ByteArray) (IntKind.wrap .u8 (Int.tdiv ((c.toNat : Nat) : Int) 16))) fun (c141 : Int) =>
                  Option.bind (bx (⟨#[48, 49, 50, 51, 52, 53, 54, 55, 56, 57, 97, 98, 99, 100, 101, 102]⟩ : ByteArray) (Int.tmod ((c.toNat : Nat) : Int) 16)) fun (c143 : Int) =>
                  Option.bind (app (bi acc) [92, 120, c141, c143]) fun (zs149 : List Int) => some zs149)
                else (Option.bind (app (bi acc) [((c.toNat : Nat) : Int)]) fun (zs159 : List Int) => some zs159)) fun (j131 : (List Int)) => some j131)) fun (j109 : (List Int)) => some j109)) fun (j93 : (List Int)) => some j93)) fun (j77 : (List Int)) => some j77)) fun (j57 : List Int) => some j57) = some (bi (acc ++ qB c)) := by
  subst e1 e2 e3
  have hc := c.toNat_lt
  have eqc : ∀ (c k : Nat), (((c : Nat) : Int) == (k : Int)) = decide (c = k) := fun c k => by rw [Bool.eq_iff_iff, beq_iff_eq, decide_eq_true_eq]; omega
  rw [show (((c.toNat : Nat) : Int) == 92) = decide (c.toNat = 92) from eqc _ 92, show (((c.toNat : Nat) : Int) == 34) = decide (c.toNat = 34) from eqc _ 34, show (((c.toNat : Nat) : Int) == 10) = decide (c.toNat = 10) from eqc _ 10, show (((c.toNat : Nat) : Int) == 9) = decide (c.toNat = 9) from eqc _ 9, show (((c.toNat : Nat) : Int) == 13) = decide (c.toNat = 13) from eqc _ 13, show (((c.toNat : Nat) : Int) == 127) = decide (c.toNat = 127) from eqc _ 127,
    show Int.tdiv ((c.toNat : Nat) : Int) 16 = ((c.toNat / 16 : Nat) : Int) from by rw [show (16 : Int) = ((16 : Nat) : Int) from rfl, Int.ofNat_tdiv], show Int.tmod ((c.toNat : Nat) : Int) 16 = ((c.toNat % 16 : Nat) : Int) from by rw [show (16 : Int) = ((16 : Nat) : Int) from rfl]; exact (Int.ofNat_tmod _ _).symm, wrapU8 (by omega) (by omega), hexdig' (by omega), hexdig' (by omega)]
  unfold qB
  by_cases c1 : c.toNat = 92 ∨ c.toNat = 34
  · rw [if_pos c1, show (decide (c.toNat = 92) || decide (c.toNat = 34)) = true from by rcases c1 with h | h <;> simp [h]]
    simp only [cond_true]
    rw [show ([92, ((c.toNat : Nat) : Int)] : List Int) = bi [92, c] from rfl, app_bi (by simp; omega)]; rfl
  rw [if_neg c1, show (decide (c.toNat = 92) || decide (c.toNat = 34)) = false from by rw [not_or] at c1; simp [c1.1, c1.2]]
  simp only [cond_false]
  by_cases c2 : c.toNat = 10
  · rw [if_pos c2, decide_eq_true c2]
    simp only [cond_true]
    rw [show ([92, 110] : List Int) = bi [92, 110] from rfl, app_bi (by simp; omega)]; rfl
  rw [if_neg c2, decide_eq_false c2]
  simp only [cond_false]
  by_cases c3 : c.toNat = 9
  · rw [if_pos c3, decide_eq_true c3]
    simp only [cond_true]
    rw [show ([92, 116] : List Int) = bi [92, 116] from rfl, app_bi (by simp; omega)]; rfl
  rw [if_neg c3, decide_eq_false c3]
  simp only [cond_false]
  by_cases c4 : c.toNat = 13
  · rw [if_pos c4, decide_eq_true c4]
    simp only [cond_true]
    rw [show ([92, 114] : List Int) = bi [92, 114] from rfl, app_bi (by simp; omega)]; rfl
  rw [if_neg c4, decide_eq_false c4]
  simp only [cond_false]
  by_cases c5 : c.toNat < 32 ∨ c.toNat = 127
  · rw [if_pos c5, show (decide (((c.toNat : Nat) : Int) < 32) || decide (c.toNat = 127)) = true from by
      rcases c5 with h | h
      · rw [decide_eq_true (show ((c.toNat : Nat) : Int) < 32 by omega)]; rfl
      · simp [h]]
    simp only [cond_true, Option.bind_some]
    rw [show ([92, 120, (((hxB (c.toNat / 16)).toNat : Nat) : Int), (((hxB (c.toNat % 16)).toNat : Nat) : Int)] : List Int) = bi [92, 120, hxB (c.toNat / 16), hxB (c.toNat % 16)] from rfl, app_bi (by simp; omega)]; rfl
  · rw [if_neg c5, show (decide (((c.toNat : Nat) : Int) < 32) || decide (c.toNat = 127)) = false from by
      rw [not_or] at c5
      rw [decide_eq_false (show ¬ (((c.toNat : Nat) : Int) < 32) by omega)]; simp [c5.2]]
    simp only [cond_false]
    rw [show ([((c.toNat : Nat) : Int)] : List Int) = bi [c] from rfl, app_bi (by simp; omega)]; rfl
end Go.GB
namespace Go.Proofs.YtlhpclfkoblnkaaDoor
open Go.GB Go.Lib
theorem quote_loop {l : List UInt8} (hl : l.length ≤ 268435456) : ∀ (d i : Nat) (acc : List UInt8), i + d = l.length → acc.length ≤ 4 * i + 1 → loopO (lex_Quote_l41 (bi l)) (bi acc, (i : Int)) = some (bi (acc ++ (l.drop i).flatMap qB))
  | 0, i, acc, hi, ha => by
    refine (loopO_done (r := bi acc) ?_).trans ?_
    · unfold lex_Quote_l41
      rw [decide_eq_false (by rw [bi_len]; show ¬ ((i : Int) < (l.length : Int)); omega)]; rfl
    · rw [List.drop_eq_nil_of_le (by omega)]; simp
  | d + 1, i, acc, hi, ha => by
    have hb : lex_Quote_l41 (bi l) (bi acc, (i : Int)) = some (.inl (bi (acc ++ qB (l[i]'(by omega))), ((i + 1 : Nat) : Int))) := by
      unfold lex_Quote_l41
      rw [decide_eq_true (by rw [bi_len]; show ((i : Int) < (l.length : Int)); omega), cond_true]
      simp only
      rw [ix_bi (show i < l.length by omega), Option.bind_some]
      have := quote_step (acc := acc) (c := l[i]'(by omega)) (s1 := bytesOf ⟨#[92, 110]⟩) (s2 := bytesOf ⟨#[92, 116]⟩) (s3 := bytesOf ⟨#[92, 114]⟩) (by omega) rfl rfl rfl
      obtain ⟨z, hz1, hz2⟩ := bind_some this
      refine bind_of hz1 ?_
      rw [wrapN (n := i + 1) (by omega) (by omega), some_inj hz2]
    rw [loopO_step hb, quote_loop hl d (i + 1) _ (by omega) (by have := qB_len (l[i]'(by omega)); simp; omega), List.drop_eq_getElem_cons (show i < l.length by omega), List.flatMap_cons, List.append_assoc]
theorem lex_Quote_eq {s : ByteArray} (hs : s.size ≤ 268435456) : lex_Quote s = some (if validD (tl s) = true then ((⟨(quoteL (tl s)).toArray⟩ : ByteArray), (0 : Int)) else (⟨#[]⟩, 12)) := by
  have hl := tl_len s
  unfold lex_Quote
  rw [valid_eq (by omega), Option.bind_some]
  show (bif !(validD (tl s)) then _ else _) = _
  cases hv : validD (tl s) with
  | false => rfl
  | true =>
    simp only [Bool.not_true, cond_false, if_true]
    rw [sb_eq (by omega), Option.bind_some, bi_bytes]
    have h := quote_loop (l := tl s) (by omega) s.size 0 [34] (by omega) (by simp)
    rw [List.drop_zero] at h
    refine bind_of (show loopO (lex_Quote_l41 (bi (tl s))) ([34], 0) = _ from h) ?_
    have hf := flat_len (tl s)
    refine bind_of (show app _ [34] = _ from app_bi (b := [34]) (by rw [List.length_append, List.length_singleton]; omega)) ?_
    rw [ofBytes_bi']; rfl
theorem lex_alone_eq {s : ByteArray} {k : Int} (hs : s.size < 536870912) : lex_alone s k = some (aloneL (tl s) k) := by
  have hl := tl_len s
  unfold lex_alone
  rw [nil_size]
  by_cases h0 : s.size = 0
  · rw [decide_eq_true h0, cond_true]
    have : tl s = [] := List.eq_nil_of_length_eq_zero (by omega)
    rw [this]; unfold aloneL; rw [oneL_nil]
  · rw [decide_eq_false h0, cond_false]
    obtain ⟨⟨tok, n⟩, h1, h2⟩ := lex_one_eq hs (by omega)
    rw [h1, Option.bind_some]
    unfold oneOk at h2
    unfold aloneL
    cases ho : oneL (tl s) with
    | none =>
      rw [ho] at h2
      simp only at h2 ⊢
      subst h2
      rw [show (((0 : Int)) == (s.size : Int)) = false from by rw [beq_eq_false_iff_ne]; omega]; rfl
    | some x =>
      obtain ⟨kd, t, m⟩ := x
      rw [ho] at h2
      simp only [Prod.mk.injEq] at h2 ⊢
      obtain ⟨rfl, rfl⟩ := h2
      rw [hl]
      congr 1
      rw [Bool.eq_iff_iff, Bool.and_eq_true, beq_iff_eq, beq_iff_eq, decide_eq_true_eq]
      constructor
      · rintro ⟨a, b⟩; exact ⟨by omega, b⟩
      · rintro ⟨a, b⟩; exact ⟨by omega, b⟩
def keyJ (x : S27) : Int × List UInt8 := (x.f0, tl x.f1)
theorem alone_kind {t : List UInt8} {k : Int} (h : aloneL t k = true) (h4 : k ≠ 4) : k = 1 ∨ k = 2 ∨ k = 3 ∨ k = 5 := by
  obtain ⟨kd, t', h1, h2⟩ := aloneL_true h
  have := oneL_kind h1
  omega
/-- one word, as the program finds it -/
theorem join_word {x : S27} (hs : x.f1.size ≤ 1048576) : (bif (x.f0 == 4) then
        (Option.bind (lex_Quote x.f1) fun (y104 : ByteArray × Int) =>
          bif (y104.2 != 0) then
          (some (Sum.inr (Sum.inr (Sum.inr (Sum.inr ((⟨#[]⟩ : ByteArray), 130))))))
          else
          (some (Sum.inl y104.1)))
        else
        (Option.bind (bif (x.f0 == 1) then
            (some (x.f0 == 1))
            else
            (Option.bind (bif (x.f0 == 2) then
                (some (x.f0 == 2))
                else
                (Option.bind (bif (x.f0 == 3) then
                    (some (x.f0 == 3))
                    else
                    (some (x.f0 == 5))) fun (j119 : Bool) =>
                  some j119)) fun (j113 : Bool) =>
              some j113)) fun (j107 : Bool) =>
          bif j107 then
          (Option.bind (lex_alone x.f1 x.f0) fun (y126 : Bool) =>
            bif (!y126) then
            (some (Sum.inr (Sum.inr (Sum.inr (Sum.inr ((⟨#[]⟩ : ByteArray), 130))))))
            else
            (some (Sum.inl x.f1)))
          else
          (some (Sum.inr (Sum.inr (Sum.inr (Sum.inr ((⟨#[]⟩ : ByteArray), 130))))))) : Option ((ByteArray) ⊕ ((Unit × (List Int)) ⊕ ((Unit × (List Int) × Int) ⊕ ((Unit × (List Int)) ⊕ (ByteArray × Int)))))) =
    some (match wordL x.f0 (tl x.f1) with | some w => Sum.inl ⟨w.toArray⟩ | none => Sum.inr (Sum.inr (Sum.inr (Sum.inr (⟨#[]⟩, 130))))) := by
  unfold wordL
  by_cases h4 : x.f0 = 4
  · rw [h4, show ((4 : Int) == 4) = true from rfl, cond_true, if_pos rfl, lex_Quote_eq (by omega), Option.bind_some]
    cases validD (tl x.f1) <;> rfl
  · rw [show (x.f0 == 4) = false from by rw [beq_eq_false_iff_ne]; exact h4, cond_false, if_neg h4]
    have hj : (bif (x.f0 == 1) then (some (x.f0 == 1)) else (Option.bind (bif (x.f0 == 2) then (some (x.f0 == 2)) else (Option.bind (bif (x.f0 == 3) then (some (x.f0 == 3)) else (some (x.f0 == 5))) fun (j119 : Bool) => some j119)) fun (j113 : Bool) => some j113)) = some (decide (x.f0 = 1 ∨ x.f0 = 2 ∨ x.f0 = 3 ∨ x.f0 = 5)) := by
      have e : ∀ k : Int, (x.f0 == k) = decide (x.f0 = k) := fun k => by rw [Bool.eq_iff_iff, beq_iff_eq, decide_eq_true_eq]
      rw [e, e, e, e]
      by_cases k1 : x.f0 = 1
      · simp [k1]
      by_cases k2 : x.f0 = 2
      · simp [k2]
      by_cases k3 : x.f0 = 3
      · simp [k3]
      · simp [k1, k2, k3]
    rw [hj, Option.bind_some]
    by_cases hk : x.f0 = 1 ∨ x.f0 = 2 ∨ x.f0 = 3 ∨ x.f0 = 5
    · rw [decide_eq_true hk, cond_true, lex_alone_eq (by omega), Option.bind_some]
      cases aloneL (tl x.f1) x.f0 <;> rfl
    · rw [decide_eq_false hk, cond_false, if_neg (fun h => hk (alone_kind h h4))]
theorem join_loop {L : List S27} (hL : ∀ x ∈ L, x.f1.size ≤ 1048576) (hLl : L.length ≤ 2147483648) : ∀ (d i : Nat) (acc : List UInt8), i + d = L.length → acc.length ≤ 16777216 →
    match wordsL ((L.drop i).map keyJ) with
    | none => loopO (lex_Join_l73 L) ((), bi acc, (i : Int)) = some (.inr (⟨#[]⟩, 130))
    | some ws => ∃ acc', loopO (lex_Join_l73 L) ((), bi acc, (i : Int)) = some (.inl ((), bi acc')) ∧ ((extL i acc ws).length ≤ 65536 → acc' = extL i acc ws) ∧ ((extL i acc ws).length > 65536 → acc'.length > 65536)
  | 0, i, acc, hi, ha => by
    rw [List.drop_eq_nil_of_le (by omega)]
    refine ⟨acc, loopO_done ?_, fun _ => rfl, fun h => h⟩
    unfold lex_Join_l73
    rw [decide_eq_false (by show ¬ ((i : Int) < (L.length : Int)); omega)]; rfl
  | d + 1, i, acc, hi, ha => by
    have hlt : i < L.length := by omega
    rw [List.drop_eq_getElem_cons hlt, List.map_cons]
    obtain ⟨x, hx⟩ : ∃ x, L[i] = x := ⟨_, rfl⟩
    have hxs : x.f1.size ≤ 1048576 := hL x (by rw [← hx]; exact List.getElem_mem hlt)
    rw [hx]
    show match (match wordL x.f0 (tl x.f1) with | none => none | some w => match wordsL ((L.drop (i + 1)).map keyJ) with | none => none | some ws => some (w :: ws)) with | none => _ | some ws => _
    have hw := join_word (x := x) hxs
    cases hwd : wordL x.f0 (tl x.f1) with
    | none =>
      rw [hwd] at hw
      refine loopO_done ?_
      unfold lex_Join_l73
      rw [decide_eq_true (by show ((i : Int) < (L.length : Int)); omega), cond_true]
      simp only [ix_nat, List.getElem?_eq_getElem hlt, Option.bind_some, hx]
      rw [hw]; rfl
    | some w =>
      rw [hwd] at hw
      have hwl := wordL_len hwd
      rw [tl_len] at hwl
      have hsz : (⟨w.toArray⟩ : ByteArray).size = w.length := by rw [← tl_len]
      have hb : lex_Join_l73 L ((), bi acc, (i : Int)) = some (.inl ((), bi (if acc.length > 65536 then acc else (if i > 0 then acc ++ [32] else acc) ++ w), ((i + 1 : Nat) : Int))) := by
        unfold lex_Join_l73
        rw [decide_eq_true (by show ((i : Int) < (L.length : Int)); omega), cond_true]
        simp only [ix_nat, List.getElem?_eq_getElem hlt, Option.bind_some, hx]
        rw [hw, Option.bind_some]
        simp only
        unfold strings_Builder_Len
        rw [bi_len]
        by_cases hg : acc.length > 65536
        · rw [decide_eq_true (by omega), cond_true, if_pos hg, Option.bind_some, wrapN (n := i + 1) (by omega) (by omega)]
        · rw [decide_eq_false (by omega), cond_false, if_neg hg]
          have hj : (bif decide (((i : Nat) : Int) > 0) then (Option.bind (strings_Builder_WriteByte (⟨bi acc⟩ : S50) 32) fun (y145 : Unit × S50) => some ((), y145.2.f1)) else some ((), bi acc)) = some ((), bi (if i > 0 then acc ++ [32] else acc)) := by
            by_cases hi0 : i > 0
            · rw [decide_eq_true (by omega), cond_true, if_pos hi0]
              unfold strings_Builder_WriteByte strings_Builder_copyCheck
              rw [show ([32] : List Int) = bi [32] from rfl, app_bi (by simp; omega)]; rfl
            · rw [decide_eq_false (by omega), cond_false, if_neg hi0]
          rw [hj, Option.bind_some]
          simp only
          unfold strings_Builder_WriteString strings_Builder_copyCheck
          have hal : (if i > 0 then acc ++ [32] else acc).length ≤ 65537 := by split <;> (try simp) <;> omega
          rw [bi_bytes, tl_mk, app_bi (by omega), Option.bind_some, Option.bind_some, Option.bind_some, wrapN (n := i + 1) (by omega) (by omega)]
      have hal : (if acc.length > 65536 then acc else (if i > 0 then acc ++ [32] else acc) ++ w).length ≤ 16777216 := by
        split
        · exact ha
        · rw [List.length_append]; split <;> (try simp) <;> omega
      have ih := join_loop hL hLl d (i + 1) _ (by omega) hal
      rw [loopO_step hb]
      cases hr : wordsL ((L.drop (i + 1)).map keyJ) with
      | none => rw [hr] at ih; exact ih
      | some ws =>
        rw [hr] at ih
        obtain ⟨acc', h1, h2, h3⟩ := ih
        refine ⟨acc', h1, ?_, ?_⟩
        · intro hle
          unfold extL at hle ⊢
          have : ¬ acc.length > 65536 := fun h => by
            have := extL_len ws (i + 1) ((if i > 0 then acc ++ [32] else acc) ++ w)
            have h5 : acc.length ≤ ((if i > 0 then acc ++ [32] else acc) ++ w).length := by split <;> (try simp) <;> omega
            omega
          rw [if_neg this] at h2
          exact h2 hle
        · intro hgt
          unfold extL at hgt
          by_cases hg : acc.length > 65536
          · rw [if_pos hg] at h3 h2
            rcases Nat.lt_or_ge 65536 (extL (i + 1) acc ws).length with h | h
            · exact h3 h
            · have := extL_len ws (i + 1) acc; omega
          · rw [if_neg hg] at h3
            exact h3 hgt
theorem lex_Join_core {L : List S27} (hL : ∀ x ∈ L, x.f1.size ≤ 1048576) (hLl : L.length ≤ 1048576) : (Option.bind (loopO (lex_Join_l73 L) ((), [], 0)) fun (r49 : (Unit × (List Int)) ⊕ (ByteArray × Int)) =>
  match r49 with
  | Sum.inl r63 => bif (decide ((strings_Builder_Len (⟨r63.2⟩ : S50)) > 65536)) then
    (some ((⟨#[]⟩ : ByteArray), 4))
    else
    (bif (decide ((IntKind.wrap .i64 ((L.length : Int) + 1)) > 4096)) then
      (some ((⟨#[]⟩ : ByteArray), 7))
      else
      (Option.bind (strings_Builder_String (⟨r63.2⟩ : S50)) fun (y174 : ByteArray) =>
        some (y174, 0)))
  | Sum.inr v179 => some v179) = some ((⟨(joinS (L.map keyJ)).1.toArray⟩ : ByteArray), (joinS (L.map keyJ)).2) := by
  have h := join_loop hL (by omega) L.length 0 [] (by omega) (by simp)
  rw [List.drop_zero] at h
  unfold joinS
  cases hw : wordsL (L.map keyJ) with
  | none =>
    rw [hw] at h
    rw [show loopO (lex_Join_l73 L) ((), [], 0) = _ from h]; rfl
  | some ws =>
    rw [hw] at h
    obtain ⟨acc', h1, h2, h3⟩ := h
    rw [show loopO (lex_Join_l73 L) ((), [], 0) = _ from h1, Option.bind_some]
    simp only
    unfold strings_Builder_Len
    rw [bi_len, List.length_map, wrapN (n := L.length + 1) (by omega) (by omega)]
    by_cases hg : (extL 0 [] ws).length > 65536
    · rw [if_pos hg, decide_eq_true (by have := h3 hg; omega), cond_true]
    · have e := h2 (by omega)
      subst e
      rw [if_neg hg, decide_eq_false (by omega), cond_false]
      by_cases hn : L.length + 1 > 4096
      · rw [if_pos hn, decide_eq_true (by omega), cond_true]
      · rw [if_neg hn, decide_eq_false (by omega), cond_false]
        refine bind_of (show strings_Builder_String _ = _ from strO_bi _) rfl
/-- the tokens without the end at their end -/
def cutEnd (L : List S27) : List S27 := match L.getLast? with
  | some x => if x.f0 = 0 ∧ tl x.f1 = [] then L.dropLast else L
  | none => L
theorem lex_Join_eq {L : List S27} (hL : ∀ x ∈ L, x.f1.size ≤ 1048576) (hLl : L.length ≤ 1048576) : lex_Join L = some ((⟨(joinS ((cutEnd L).map keyJ)).1.toArray⟩ : ByteArray), (joinS ((cutEnd L).map keyJ)).2) := by
  unfold lex_Join
  have hcut : ∀ x ∈ cutEnd L, x ∈ L := by
    intro x hx
    unfold cutEnd at hx
    split at hx
    · split at hx
      · exact (List.dropLast_sublist L).subset hx
      · exact hx
    · exact hx
  have hcl : (cutEnd L).length ≤ L.length := by
    unfold cutEnd; split
    · split
      · rw [List.length_dropLast]; omega
      · omega
    · omega
  refine Eq.trans ?_ (lex_Join_core (fun x hx => hL x (hcut x hx)) (by omega))
  by_cases h0 : L = []
  · subst h0; rfl
  have hpos := List.length_pos_iff.2 h0
  have hlast : L.getLast? = some (L[L.length - 1]'(by omega)) := by rw [List.getLast?_eq_getElem?, List.getElem?_eq_getElem (by omega)]
  rw [decide_eq_true (by omega), cond_true, wrapN (n := L.length - 1) (by omega) (by omega), ix_nat, List.getElem?_eq_getElem (show L.length - 1 < L.length by omega), Option.bind_some]
  obtain ⟨x, hx⟩ : ∃ x, L[L.length - 1]'(by omega) = x := ⟨_, rfl⟩
  rw [hx] at hlast ⊢
  have hj : (bif (x.f0 == 0) then (Option.bind (some x) fun (x16 : S27) => some (x16.f1.toList == (⟨#[]⟩ : ByteArray).toList)) else some false) = some (decide (x.f0 = 0 ∧ tl x.f1 = [])) := by
    rw [Option.bind_some, show (x.f0 == 0) = decide (x.f0 = 0) from by rw [Bool.eq_iff_iff, beq_iff_eq, decide_eq_true_eq], tl_inj, show tl (⟨#[]⟩ : ByteArray) = [] from rfl]
    obtain ⟨tt, htt⟩ : ∃ tt, tl x.f1 = tt := ⟨_, rfl⟩
    rw [htt]
    by_cases k1 : x.f0 = 0 <;> by_cases k2 : tt = [] <;> simp [k1, k2]
  rw [hj, Option.bind_some]
  by_cases hc : x.f0 = 0 ∧ tl x.f1 = []
  · have hce : cutEnd L = L.dropLast := by unfold cutEnd; rw [hlast]; simp only; rw [if_pos hc]
    rw [hce, decide_eq_true hc, cond_true]
    unfold lx
    rw [if_pos ⟨by omega, by omega, by omega⟩]
    simp only [Option.bind_some, Int.toNat_zero, List.drop_zero, Int.toNat_natCast]
    rw [← List.dropLast_eq_take]
    rfl
  · have hce : cutEnd L = L := by unfold cutEnd; rw [hlast]; simp only; rw [if_neg hc]
    rw [hce, decide_eq_false hc, cond_false, Option.bind_some]
    rfl
end Go.Proofs.YtlhpclfkoblnkaaDoor

/- Plain laws: LexPlaces. -/
set_option linter.unusedVariables false
set_option maxRecDepth 100000
namespace Go.GB
open Go.Lib
end Go.GB
namespace Go.Proofs.YtlhpclfkoblnkaaDoor
open Go.GB Go.Lib
def keyT (x : S27) : Int × List UInt8 := (x.f0, tl x.f1)
theorem same_true {a b : List S27} (h : a.map keyT = b.map keyT) (hl : a.length ≤ 2147483648) : lex_Same a b = some true := by
  have hlen : a.length = b.length := by have := congrArg List.length h; simpa using this
  unfold lex_Same
  rw [hlen, show (((b.length : Nat) : Int) != ((b.length : Nat) : Int)) = false from by simp, cond_false]
  refine bind_of (a := .inl ()) ?_ rfl
  have h := up_all (body := lex_Same_l18 a b) (n := a.length) (fun _ => true) (fun i hi => by
    have hk : (a.map keyT)[i]? = (b.map keyT)[i]? := by rw [h]
    rw [List.getElem?_map, List.getElem?_map, List.getElem?_eq_getElem hi, List.getElem?_eq_getElem (show i < b.length by omega)] at hk
    simp only [Option.map_some, Option.some.injEq, keyT, Prod.mk.injEq] at hk
    unfold lex_Same_l18
    rw [decide_eq_true (by omega), cond_true, ix_nat, ix_nat, List.getElem?_eq_getElem hi, List.getElem?_eq_getElem (show i < b.length by omega)]
    simp only [Option.bind_some]
    rw [hk.1, bne_self_eq_false, cond_false, tl_inj, hk.2, beq_self_eq_true]
    simp only [Bool.not_true, Option.bind_some, cond_false, cond_true]
    rw [wrap_up (by omega)]) (by
    unfold lex_Same_l18
    rw [decide_eq_false (by omega), cond_false])
  rw [h, if_pos (by simp)]
theorem lx_pre {α : Type} {xs : List α} {n : Nat} (h : n ≤ xs.length) : lx xs 0 (n : Int) = some (xs.take n) := by
  unfold lx
  rw [if_pos ⟨by omega, by omega, by omega⟩]
  simp
end Go.Proofs.YtlhpclfkoblnkaaDoor

set_option linter.unusedVariables false
set_option maxRecDepth 100000
namespace Go.Proofs.YtlhpclfkoblnkaaDoor
open Go.GB Go.Lib
theorem rquote_loop {s : ByteArray} (hl : s.size ≤ 268435456) : ∀ (d i : Nat) (acc : List UInt8), i + d = s.size → acc.length ≤ 4 * i + 1 → loopO (tocsinref13_Quote_l35 s) (bi acc, (i : Int)) = some (bi (acc ++ ((tl s).drop i).flatMap qB))
  | 0, i, acc, hi, ha => by
    have hs := tl_len s
    refine (loopO_done (r := bi acc) ?_).trans ?_
    · unfold tocsinref13_Quote_l35
      rw [decide_eq_false (by show ¬ ((i : Int) < (s.size : Int)); omega)]; rfl
    · rw [List.drop_eq_nil_of_le (by omega)]; simp
  | d + 1, i, acc, hi, ha => by
    have hs := tl_len s
    have hlt : i < (tl s).length := by omega
    have hgb : gB (tl s) i = ((tl s)[i]'hlt).toNat := by simp [gB, List.getD, List.getElem?_eq_getElem hlt]
    have hb : tocsinref13_Quote_l35 s (bi acc, (i : Int)) = some (.inl (bi (acc ++ qB ((tl s)[i]'hlt)), ((i + 1 : Nat) : Int))) := by
      unfold tocsinref13_Quote_l35
      rw [decide_eq_true (by show ((i : Int) < (s.size : Int)); omega), cond_true]
      simp only
      rw [bx_tl (by omega), hgb, Option.bind_some]
      have := quote_step (acc := acc) (c := (tl s)[i]'hlt) (s1 := [92, 110]) (s2 := [92, 116]) (s3 := [92, 114]) (by omega) rfl rfl rfl
      obtain ⟨z, hz1, hz2⟩ := bind_some this
      refine bind_of hz1 ?_
      rw [wrapN (n := i + 1) (by omega) (by omega), some_inj hz2]
    rw [loopO_step hb, rquote_loop hl d (i + 1) _ (by omega) (by have := qB_len ((tl s)[i]'hlt); rw [List.length_append]; omega), List.drop_eq_getElem_cons hlt, List.flatMap_cons, List.append_assoc]
theorem rQuote_eq {s : ByteArray} (hs : s.size ≤ 268435456) : tocsinref13_Quote s = some (if validD (tl s) = true then ((⟨(quoteL (tl s)).toArray⟩ : ByteArray), (0 : Int)) else (⟨#[]⟩, 12)) := by
  have hl := tl_len s
  unfold tocsinref13_Quote
  rw [rvalid (by omega), Option.bind_some]
  cases hv : validD (tl s) with
  | false => rfl
  | true =>
    simp only [Bool.not_true, cond_false, if_true]
    have h := rquote_loop (s := s) (by omega) s.size 0 [34] (by omega) (by simp)
    rw [List.drop_zero] at h
    refine bind_of (show loopO (tocsinref13_Quote_l35 s) ([34], 0) = _ from h) ?_
    have hf := flat_len (tl s)
    refine bind_of (show app _ [34] = _ from app_bi (b := [34]) (by rw [List.length_append, List.length_singleton]; omega)) ?_
    rw [ofBytes_bi]; rfl
theorem ralone_eq {s : ByteArray} {k : Int} (hs : s.size < 536870912) : tocsinref13_alone s k = some (aloneL (tl s) k) := by
  have hl := tl_len s
  unfold tocsinref13_alone
  rw [nil_size]
  by_cases h0 : s.size = 0
  · rw [decide_eq_true h0, cond_true]
    have : tl s = [] := List.eq_nil_of_length_eq_zero (by omega)
    rw [this]; unfold aloneL; rw [oneL_nil]
  · rw [decide_eq_false h0, cond_false]
    obtain ⟨⟨tok, n, ok⟩, h1, h2⟩ := rone_eq (s := s) (a := 0) hs (by omega)
    rw [show tocsinref13_one s 0 = _ from h1, Option.bind_some]
    rw [List.drop_zero] at h2
    unfold roneOk at h2
    unfold aloneL
    cases ho : oneL (tl s) with
    | none =>
      rw [ho] at h2
      simp only at h2 ⊢
      subst h2; rfl
    | some x =>
      obtain ⟨kd, t, m⟩ := x
      rw [ho] at h2
      simp only [Prod.mk.injEq] at h2 ⊢
      obtain ⟨rfl, rfl, rfl⟩ := h2
      rw [hl, Nat.zero_add]
      congr 1
      rw [Bool.eq_iff_iff, Bool.true_and, Bool.and_eq_true, beq_iff_eq, beq_iff_eq, decide_eq_true_eq]
      constructor
      · rintro ⟨a, b⟩; exact ⟨by omega, b⟩
      · rintro ⟨a, b⟩; exact ⟨by omega, b⟩
theorem cutEnd_cases (L : List S27) : (cutEnd L = L ∧ ∀ x, L.getLast? = some x → ¬ (x.f0 = 0 ∧ tl x.f1 = [])) ∨ ∃ x, x.f0 = 0 ∧ tl x.f1 = [] ∧ L = cutEnd L ++ [x] := by
  unfold cutEnd
  cases h : L.getLast? with
  | none => exact .inl ⟨rfl, fun x hx => by cases hx⟩
  | some x =>
    simp only
    by_cases hc : x.f0 = 0 ∧ tl x.f1 = []
    · rw [if_pos hc]
      refine .inr ⟨x, hc.1, hc.2, ?_⟩
      obtain ⟨ys, rfl⟩ := List.getLast?_eq_some_iff.1 h
      rw [List.dropLast_concat]
    · rw [if_neg hc]
      exact .inl ⟨rfl, fun y hy => by cases hy; exact hc⟩
theorem rjoin_loop {L : List S27} (hL : ∀ x ∈ L, x.f1.size ≤ 1048576) (hLl : L.length ≤ 1048577) : ∀ (d i : Nat) (acc : List UInt8), i + d = (cutEnd L).length → acc.length + 4 * wtL (((cutEnd L).drop i).map keyJ) ≤ 16777216 →
    loopO (tocsinref13_Join_l29 L) (bi acc, (i : Int), (i : Int)) = some (match wordsL (((cutEnd L).drop i).map keyJ) with
      | none => .inr (⟨#[]⟩, 130)
      | some ws => .inl (bi (extL i acc ws), (((cutEnd L).length : Nat) : Int)))
  | 0, i, acc, hi, ha => by
    have hil : i = (cutEnd L).length := by omega
    rw [List.drop_eq_nil_of_le (by omega)]
    show _ = some (Sum.inl (bi acc, (((cutEnd L).length : Nat) : Int)))
    rcases cutEnd_cases L with ⟨hc, _⟩ | ⟨x, hx0, hx1, hc⟩
    · rw [← hil]
      refine loopO_done ?_
      unfold tocsinref13_Join_l29
      rw [decide_eq_false (by show ¬ ((i : Int) < (L.length : Int)); rw [hc] at hil; omega)]; rfl
    · have hLl2 : L.length = (cutEnd L).length + 1 := by have := congrArg List.length hc; rwa [List.length_append, List.length_singleton] at this
      have hix : L[i]? = some x := by rw [hc, hil, List.getElem?_append_right (Nat.le_refl _)]; simp
      have hb : tocsinref13_Join_l29 L (bi acc, (i : Int), (i : Int)) = some (.inl (bi acc, (i : Int), ((i + 1 : Nat) : Int))) := by
        unfold tocsinref13_Join_l29
        rw [decide_eq_true (by show ((i : Int) < (L.length : Int)); omega), cond_true]
        simp only [ix_nat, hix, Option.bind_some]
        rw [show (x.f0 == 0) = true from by rw [hx0]; rfl, cond_true, tl_inj, hx1, wrapN (n := L.length - 1) (by omega) (by omega), decide_eq_false (show ¬ ((i : Int) < ((L.length - 1 : Nat) : Int)) by omega)]
        rw [show (!(([] : List UInt8) == tl (⟨#[]⟩ : ByteArray)) || false) = false from rfl, cond_false, Option.bind_some]
        simp only
        rw [wrapN (n := i + 1) (by omega) (by omega)]
      rw [loopO_step hb, ← hil]
      refine loopO_done ?_
      unfold tocsinref13_Join_l29
      rw [decide_eq_false (by show ¬ (((i + 1 : Nat) : Int) < (L.length : Int)); omega)]; rfl
  | d + 1, i, acc, hi, ha => by
    have hlt : i < (cutEnd L).length := by omega
    have hLge : (cutEnd L).length ≤ L.length := by
      rcases cutEnd_cases L with ⟨hc, _⟩ | ⟨x, hx0, hx1, hc⟩
      · rw [hc]; exact Nat.le_refl _
      · conv => rhs; rw [hc]
        simp
    obtain ⟨x, hx⟩ : ∃ x, (cutEnd L)[i] = x := ⟨_, rfl⟩
    have hxL : L[i]? = some x := by
      rcases cutEnd_cases L with ⟨hc, _⟩ | ⟨y, hy0, hy1, hc⟩
      · have : (cutEnd L)[i]? = some x := by rw [List.getElem?_eq_getElem hlt, hx]
        rwa [hc] at this
      · rw [hc, List.getElem?_append_left hlt, List.getElem?_eq_getElem hlt, hx]
    have hxs : x.f1.size ≤ 1048576 := hL x (List.mem_of_getElem? hxL)
    have hdrop : (cutEnd L).drop i = x :: (cutEnd L).drop (i + 1) := by rw [List.drop_eq_getElem_cons hlt, hx]
    rw [hdrop, List.map_cons] at ha ⊢
    have ha' : acc.length + 4 * ((tl x.f1).length + 1 + wtL (((cutEnd L).drop (i + 1)).map keyJ)) ≤ 16777216 := ha
    show _ = some (match (match wordL x.f0 (tl x.f1) with | none => none | some w => match wordsL (((cutEnd L).drop (i + 1)).map keyJ) with | none => none | some ws => some (w :: ws)) with | none => _ | some ws => _)
    by_cases h0 : x.f0 = 0
    · rw [h0, wordL_end]
      refine loopO_done ?_
      unfold tocsinref13_Join_l29
      rw [decide_eq_true (by show ((i : Int) < (L.length : Int)); omega), cond_true]
      simp only [ix_nat, hxL, Option.bind_some]
      rw [show (x.f0 == 0) = true from by rw [h0]; rfl, cond_true, tl_inj, wrapN (n := L.length - 1) (by omega) (by omega)]
      have : (!(tl x.f1 == tl (⟨#[]⟩ : ByteArray)) || decide ((i : Int) < ((L.length - 1 : Nat) : Int))) = true := by
        by_cases hi1 : i < L.length - 1
        · rw [decide_eq_true (show (i : Int) < ((L.length - 1 : Nat) : Int) by omega)]; simp
        · have hne : ¬ tl x.f1 = [] := by
            intro ht
            rcases cutEnd_cases L with ⟨hc, hn⟩ | ⟨y, hy0, hy1, hc⟩
            · refine hn x ?_ ⟨h0, ht⟩
              rw [List.getLast?_eq_getElem?, show L.length - 1 = i from by omega]; exact hxL
            · have : L.length = (cutEnd L).length + 1 := by have := congrArg List.length hc; rwa [List.length_append, List.length_singleton] at this
              omega
          rw [show (tl x.f1 == tl (⟨#[]⟩ : ByteArray)) = false from by rw [beq_eq_false_iff_ne]; exact hne]; rfl
      rw [this]; rfl
    have hw : ((bif (x.f0 == 4) then
          (Option.bind (tocsinref13_Quote x.f1) fun (y73 : ByteArray × Int) =>
            bif (y73.2 != 0) then
            (some (Sum.inr (Sum.inr (Sum.inr (Sum.inr ((⟨#[]⟩ : ByteArray), 130))))))
            else
            (some (Sum.inl y73.1)))
          else
          (Option.bind (some x) fun (x76 : S27) =>
            Option.bind (tocsinref13_alone x.f1 x76.f0) fun (y84 : Bool) =>
            bif (!y84) then
            (some (Sum.inr (Sum.inr (Sum.inr (Sum.inr ((⟨#[]⟩ : ByteArray), 130))))))
            else
            (some (Sum.inl x.f1))) : Option ((ByteArray) ⊕ (((List Int) × Int) ⊕ (((List Int) × Int × Int) ⊕ (((List Int) × Int) ⊕ (ByteArray × Int)))))) =
        some (match wordL x.f0 (tl x.f1) with | some w => Sum.inl ⟨w.toArray⟩ | none => Sum.inr (Sum.inr (Sum.inr (Sum.inr (⟨#[]⟩, 130)))))) := by
      unfold wordL
      by_cases h4 : x.f0 = 4
      · rw [h4, show ((4 : Int) == 4) = true from rfl, cond_true, if_pos rfl, rQuote_eq (by omega), Option.bind_some]
        cases validD (tl x.f1) <;> rfl
      · rw [show (x.f0 == 4) = false from by rw [beq_eq_false_iff_ne]; exact h4, cond_false, if_neg h4, Option.bind_some, ralone_eq (by omega), Option.bind_some]
        cases aloneL (tl x.f1) x.f0 <;> rfl
    cases hwd : wordL x.f0 (tl x.f1) with
    | none =>
      rw [hwd] at hw
      refine loopO_done ?_
      unfold tocsinref13_Join_l29
      rw [decide_eq_true (by show ((i : Int) < (L.length : Int)); omega), cond_true]
      simp only [ix_nat, hxL, Option.bind_some] at hw ⊢
      rw [show (x.f0 == 0) = false from by rw [beq_eq_false_iff_ne]; exact h0, cond_false, hw]; rfl
    | some w =>
      rw [hwd] at hw
      have hwl := wordL_len hwd
      have hal : (if i > 0 then acc ++ [32] else acc).length ≤ acc.length + 1 := by split <;> simp
      have hb : tocsinref13_Join_l29 L (bi acc, (i : Int), (i : Int)) = some (.inl (bi ((if i > 0 then acc ++ [32] else acc) ++ w), ((i + 1 : Nat) : Int), ((i + 1 : Nat) : Int))) := by
        unfold tocsinref13_Join_l29
        rw [decide_eq_true (by show ((i : Int) < (L.length : Int)); omega), cond_true]
        simp only [ix_nat, hxL, Option.bind_some] at hw ⊢
        rw [show (x.f0 == 0) = false from by rw [beq_eq_false_iff_ne]; exact h0, cond_false, hw, Option.bind_some]
        simp only
        have hj : (bif decide (((i : Nat) : Int) > 0) then (Option.bind (app (bi acc) [32]) fun (zs101 : List Int) => some zs101) else some (bi acc)) = some (bi (if i > 0 then acc ++ [32] else acc)) := by
          by_cases hi0 : i > 0
          · rw [decide_eq_true (by omega), cond_true, if_pos hi0, show ([32] : List Int) = bi [32] from rfl, app_bi (by simp; omega)]; rfl
          · rw [decide_eq_false (by omega), cond_false, if_neg hi0]
        rw [hj, Option.bind_some, bi_bytes, tl_mk, app_bi (by omega), Option.bind_some, Option.bind_some]
        simp only
        rw [wrapN (n := i + 1) (by omega) (by omega)]
      rw [loopO_step hb, rjoin_loop hL hLl d (i + 1) _ (by omega) (by rw [List.length_append]; omega)]
      cases wordsL (((cutEnd L).drop (i + 1)).map keyJ) <;> rfl
theorem rJoin_eq {L : List S27} (hL : ∀ x ∈ L, x.f1.size ≤ 1048576) (hLl : L.length ≤ 1048577) (hwt : wtL ((cutEnd L).map keyJ) ≤ 1048577) : tocsinref13_Join L = some ((⟨(joinS ((cutEnd L).map keyJ)).1.toArray⟩ : ByteArray), (joinS ((cutEnd L).map keyJ)).2) := by
  have hLge : (cutEnd L).length ≤ L.length := by
    rcases cutEnd_cases L with ⟨hc, _⟩ | ⟨x, hx0, hx1, hc⟩
    · rw [hc]; exact Nat.le_refl _
    · conv => rhs; rw [hc]
      simp
  unfold tocsinref13_Join
  have h := rjoin_loop hL hLl _ 0 [] (Nat.zero_add _) (by rw [List.drop_zero]; simp; omega)
  rw [List.drop_zero] at h
  refine bind_of (show loopO (tocsinref13_Join_l29 L) ([], 0, 0) = _ from h) ?_
  unfold joinS
  cases wordsL ((cutEnd L).map keyJ) with
  | none => rfl
  | some ws =>
    simp only
    rw [bi_len, List.length_map, wrapN (n := (cutEnd L).length + 1) (by omega) (by omega)]
    by_cases hg : (extL 0 [] ws).length > 65536
    · rw [if_pos hg, decide_eq_true (by omega), cond_true]
    · rw [if_neg hg, decide_eq_false (by omega), cond_false]
      by_cases hn : (cutEnd L).length + 1 > 4096
      · rw [if_pos hn, decide_eq_true (by omega), cond_true]
      · rw [if_neg hn, decide_eq_false (by omega), cond_false, ofBytes_bi]
theorem wt_of : ∀ {l : List S27} {n : Nat}, wSl wS27 l n → wtL (l.map keyJ) ≤ n ∧ ∀ x ∈ l, x.f1.size ≤ n
  | [], n, _ => ⟨Nat.zero_le _, fun x h => by cases h⟩
  | x :: r, n, ⟨a, b, hw, h, hab, _⟩ => by
    obtain ⟨h1, h2⟩ := wt_of h
    obtain ⟨n0, n1, n2, hs, _, hw1, _⟩ := hw
    have hw2 : x.f1.size + 1 ≤ n1 := hw1
    have hl := tl_len x.f1
    refine ⟨?_, fun y hy => ?_⟩
    · show (tl x.f1).length + 1 + wtL (r.map keyJ) ≤ n; omega
    · rcases List.mem_cons.1 hy with rfl | hy
      · omega
      · have := h2 y hy; omega
theorem wt_cut (L : List S27) : wtL ((cutEnd L).map keyJ) ≤ wtL (L.map keyJ) := by
  have key : ∀ (a b : List (Int × List UInt8)), wtL a ≤ wtL (a ++ b) := by
    intro a b
    induction a with
    | nil => exact Nat.zero_le _
    | cons x a ih => obtain ⟨k, t⟩ := x; show t.length + 1 + wtL a ≤ t.length + 1 + wtL (a ++ b); omega
  rcases cutEnd_cases L with ⟨hc, _⟩ | ⟨x, hx0, hx1, hc⟩
  · rw [hc]; exact Nat.le_refl _
  · conv => rhs; rw [hc, List.map_append]
    exact key _ _
theorem same_both {a b : List S27} (ha : a.length ≤ 2147483648) : ∃ v, lex_Same a b = some v ∧ tocsinref13_Same a b = some v := by
  unfold lex_Same tocsinref13_Same
  by_cases hlen : a.length = b.length
  · rw [show (((a.length : Nat) : Int) != ((b.length : Nat) : Int)) = false from by rw [hlen]; simp, cond_false, cond_false]
    have hq : ∀ i : Nat, i < a.length → ∃ x y, a[i]? = some x ∧ b[i]? = some y := fun i hi => ⟨a[i], b[i]'(by omega), List.getElem?_eq_getElem hi, List.getElem?_eq_getElem (by omega)⟩
    have h1 := up_all (body := lex_Same_l18 a b) (n := a.length) (fun i => match a[i]?, b[i]? with | some x, some y => !(bif (x.f0 != y.f0) then true else !(x.f1.toList == y.f1.toList)) | _, _ => true) (fun i hi => by
      obtain ⟨x, y, hx, hy⟩ := hq i hi
      unfold lex_Same_l18
      rw [decide_eq_true (by omega), cond_true, ix_nat, ix_nat, hx, hy]
      simp only [Option.bind_some]
      cases hf : (x.f0 != y.f0) with
      | true => rfl
      | false =>
        simp only [cond_false, Option.bind_some]
        cases hg : (x.f1.toList == y.f1.toList) with
        | true => simp only [Bool.not_true, cond_false, Bool.not_false, cond_true]; rw [wrap_up (by omega)]
        | false => rfl) (by
      unfold lex_Same_l18
      rw [decide_eq_false (by omega), cond_false])
    have h2 := up_all (body := tocsinref13_Same_l18 a b) (n := a.length) (fun i => match a[i]?, b[i]? with | some x, some y => !(bif (x.f0 != y.f0) then true else !(x.f1.toList == y.f1.toList)) | _, _ => true) (fun i hi => by
      obtain ⟨x, y, hx, hy⟩ := hq i hi
      unfold tocsinref13_Same_l18
      rw [decide_eq_true (by omega), cond_true, ix_nat, ix_nat, hx, hy]
      simp only [Option.bind_some]
      cases hf : (x.f0 != y.f0) with
      | true => rfl
      | false =>
        simp only [cond_false, Option.bind_some]
        cases hg : (x.f1.toList == y.f1.toList) with
        | true => simp only [Bool.not_true, cond_false, Bool.not_false, cond_true]; rw [wrap_up (by omega)]
        | false => rfl) (by
      unfold tocsinref13_Same_l18
      rw [decide_eq_false (by omega), cond_false])
    rw [h1, h2]
    generalize (List.range a.length).all _ = v
    cases v
    · exact ⟨false, rfl, rfl⟩
    · exact ⟨true, rfl, rfl⟩
  · rw [show (((a.length : Nat) : Int) != ((b.length : Nat) : Int)) = true from by rw [bne_iff_ne]; omega]
    exact ⟨false, rfl, rfl⟩
theorem tocsinlaw13_LexJoins_true {I : Imm} {c0 c1 c2 : List Value} {n0 n1 n2 : Nat} (a0 : ByteArray) (a1 a2 : List S27) (h0 : Kd.str.R I a0 c0) (h1 : (Kd.sl kS27).R I a1 c1) (h2 : (Kd.sl kS27).R I a2 c2) (w0 : wStr a0 n0) (w1 : wSl wS27 a1 n1) (w2 : wSl wS27 a2 n2) (hn : n0 + n1 + n2 ≤ 1048576) : tocsinlaw13_LexJoins a0 a1 a2 = some true := by
  have hs0 : a0.size + 1 ≤ n0 := w0
  have hl1 := wSl.len w1
  obtain ⟨hwt, hsz⟩ := wt_of w1
  unfold tocsinlaw13_LexJoins
  rw [app_eq (by simp; omega), Option.bind_some, List.nil_append, app_eq (by simp; omega), Option.bind_some]
  have et : (a1 ++ [(⟨77, (⟨#[]⟩ : ByteArray), 0⟩ : S27)]).take a1.length = a1 := List.take_left' rfl
  have hlx : lx (a1 ++ [(⟨77, (⟨#[]⟩ : ByteArray), 0⟩ : S27)]) 0 (a1.length : Int) = some a1 := by rw [lx_pre (by simp), et]
  have hwh := whole_self (l := a1) (by omega)
  rw [hlx, Option.bind_some, lex_Join_eq (fun x hx => by have := hsz x hx; omega) (by omega), Option.bind_some, rJoin_eq (fun x hx => by have := hsz x hx; omega) (by omega) (by have := wt_cut a1; omega), Option.bind_some, lex_Quote_eq (by omega), Option.bind_some, rQuote_eq (by omega), Option.bind_some]
  obtain ⟨v, hv1, hv2⟩ := same_both (a := a1) (b := a2) (by omega)
  rw [hv1, hv2, same_true rfl (by omega), ix_nat, List.getElem?_append_right (Nat.le_refl _), Nat.sub_self]
  simp only [beq_self_eq_true, cond_true, Option.bind_some, List.getElem?_cons_zero, known_true, hwh]
end Go.Proofs.YtlhpclfkoblnkaaDoor
