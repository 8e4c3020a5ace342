/- NflogNeeds. -/
import Derived.Test.YtcnnbaneoehilaaDoorPF1nk
/- Plain laws: what must be told; label sets rising, each once: the program's are the document's. -/
set_option linter.unusedVariables false
set_option linter.unusedSimpArgs false
set_option maxRecDepth 100000
namespace Go.Proofs.YtcnnbaneoehilaaDoor
open Go.GB Go.Lib
theorem refSets_eq {l : Sets} (hl : l.length ≤ 2147483648) : tocsinref26_sets l = some (okSets l) := by
  unfold tocsinref26_sets
  rw [up_all_list (l := l) (fun x => decide ((rightE x).1 = 0)) (fun i hi => ?_) ?_]
  · unfold okSets
    cases l.all fun x => decide ((rightE x).1 = 0) <;> rfl
  · unfold tocsinref26_sets_l17
    rw [show decide ((l.length : Int) < (l.length : Int)) = false from decide_eq_false (by omega)]; rfl
  · unfold tocsinref26_sets_l17
    rw [show decide ((i : Int) < (l.length : Int)) = true from decide_eq_true (by omega)]
    simp only [cond_true, ix_nat, List.getElem?_eq_getElem hi, Option.bind_some, refRight_eq, wrap_up (show i < 4294967296 by omega)]
    by_cases h : (rightE l[i]).1 = 0
    · rw [h]; rfl
    · rw [show ((rightE l[i]).1 != 0) = true from by rw [bne_iff_ne]; exact h, decide_eq_false h]; rfl
theorem find_loop {out : Sets} {s : List S50} {q : Int} (ho : out.length ≤ 2147483648) (hw : ∀ x ∈ out, Wl x) : ∀ (d k : Nat), out.length - k = d → k ≤ insK out s →
    loopO (tocsinref26_Sorted_l69 (out, q) s) (k : Int) = some ((insK out s : Nat) : Int) := by
  intro d
  induction d with
  | zero =>
    intro k hd hk
    have := insK_le out s
    have e : k = insK out s := by omega
    rw [← e]
    refine loopO_done ?_
    unfold tocsinref26_Sorted_l69
    simp only [show decide ((k : Int) < (out.length : Int)) = false from decide_eq_false (by omega), cond_false, Option.bind_some]
  | succ d ih =>
    intro k hd hk
    have hlt : k < out.length := by omega
    have hc := refCompare_eq out[k] s (hw _ (List.getElem_mem hlt))
    by_cases hn : cmpL out[k] s < 0
    · have hk2 : k + 1 ≤ insK out s := by
        rcases Nat.lt_or_ge k (insK out s) with h | h
        · exact h
        · exfalso
          have e : insK out s = k := by omega
          have := insK_at (out := out) (s := s) (by rw [e]; exact hlt)
          simp only [e] at this
          exact this hn
      rw [loopO_step (s' := ((k + 1 : Nat) : Int)) (by
        unfold tocsinref26_Sorted_l69
        simp only [show decide ((k : Int) < (out.length : Int)) = true from decide_eq_true (by omega), cond_true, ix_nat, List.getElem?_eq_getElem hlt, Option.bind_some, hc, decide_eq_true hn, wrap_up (show k < 4294967296 by omega)])]
      exact ih (k + 1) (by omega) hk2
    · have e : k = insK out s := by
        rcases Nat.lt_or_ge k (insK out s) with h | h
        · exfalso
          have hm : out[k] ∈ out.take (insK out s) := by
            rw [List.mem_take_iff_getElem]
            exact ⟨k, by omega, rfl⟩
          have := insK_head out[k] hm
          rw [this] at hn
          exact hn (by decide)
        · omega
      rw [← e]
      refine loopO_done ?_
      unfold tocsinref26_Sorted_l69
      simp only [show decide ((k : Int) < (out.length : Int)) = true from decide_eq_true (by omega), cond_true, ix_nat, List.getElem?_eq_getElem hlt, Option.bind_some, hc, decide_eq_false hn, cond_false]
theorem ins_round {l out : Sets} {i : Nat} (hi : i < l.length) (hl : l.length < 2147483648) (ho : out.length ≤ i) (hw : ∀ x ∈ out, Wl x) :
    tocsinref26_Sorted_l31 l (out, (i : Int)) = some (.inl (insL out l[i], ((i + 1 : Nat) : Int))) := by
  have hf := find_loop (out := out) (s := l[i]) (q := (i : Int)) (by omega) hw out.length 0 (by omega) (by omega)
  rw [show ((0 : Nat) : Int) = 0 from rfl] at hf
  have hk := insK_le out l[i]
  obtain ⟨b, hj, hb⟩ : ∃ b : Bool, (bif (decide (((insK out l[i] : Nat) : Int) < (out.length : Int))) then
        (Option.bind (ix out ((insK out l[i] : Nat) : Int)) fun (x98 : List S50) =>
          Option.bind (tocsinref04_Same x98 l[i]) fun (y110 : Bool) =>
          some y110)
        else
        (some false)) = some b ∧ (b = true ↔ out[insK out l[i]]? = some l[i]) := by
    by_cases h : insK out l[i] < out.length
    · rw [show decide (((insK out l[i] : Nat) : Int) < (out.length : Int)) = true from decide_eq_true (by omega)]
      simp only [cond_true, ix_nat, List.getElem?_eq_getElem h, Option.bind_some, refSame_eq _ _ (hw _ (List.getElem_mem h))]
      refine ⟨_, rfl, ?_⟩
      rw [decide_eq_true_eq]
      exact ⟨fun e => by rw [cmpL_zero e], fun e => by rw [Option.some.inj e]; exact cmpL_self _⟩
    · rw [show decide (((insK out l[i] : Nat) : Int) < (out.length : Int)) = false from decide_eq_false (by omega), List.getElem?_eq_none (by omega)]
      exact ⟨false, rfl, by simp⟩
  unfold tocsinref26_Sorted_l31
  simp only [show decide ((i : Int) < (l.length : Int)) = true from decide_eq_true (by omega), cond_true, ix_nat, List.getElem?_eq_getElem hi, Option.bind_some, hf, wrap_up (show i < 4294967296 by omega)]
  simp only [ix_nat] at hj
  rw [hj]
  simp only [Option.bind_some]
  unfold insL
  by_cases h : out[insK out l[i]]? = some l[i]
  · rw [hb.2 h, if_pos h]; rfl
  · rw [show b = false from by rw [Bool.eq_false_iff]; exact fun e => h (hb.1 e), if_neg h]
    have h1 : lx out 0 ((insK out l[i] : Nat) : Int) = some (out.take (insK out l[i])) := by
      unfold lx
      rw [if_pos ⟨by omega, by omega, by omega⟩, Int.toNat_natCast]; rfl
    have h2 : lx out ((insK out l[i] : Nat) : Int) (out.length : Int) = some (out.drop (insK out l[i])) := by
      unfold lx
      rw [if_pos ⟨by omega, by omega, by omega⟩, Int.toNat_natCast, Int.toNat_natCast, List.take_length]
    simp only [cond_false, h1, Option.bind_some]
    rw [app_eq (by simp; omega)]
    simp only [Option.bind_some, List.nil_append]
    rw [app_eq (by simp; omega)]
    simp only [Option.bind_some, h2]
    rw [app_eq (by simp only [List.length_append, List.length_take, List.length_drop, List.length_cons, List.length_nil]; omega)]
    simp
theorem insAll_wl {l : Sets} (hw : ∀ x ∈ l, Wl x) : ∀ x ∈ insAll l, Wl x := fun x hx => hw x ((insAll_mem l x).1 hx)
theorem ins_loop {l : Sets} (hl : l.length < 2147483648) (hw : ∀ x ∈ l, Wl x) : ∀ (d i : Nat), l.length - i = d → i ≤ l.length → loopO (tocsinref26_Sorted_l31 l) (insAll (l.take i), (i : Int)) = some (insAll l) := by
  intro d
  induction d with
  | zero =>
    intro i hd hi
    obtain rfl : i = l.length := by omega
    rw [List.take_length]
    refine loopO_done ?_
    unfold tocsinref26_Sorted_l31
    simp only [show decide ((l.length : Int) < (l.length : Int)) = false from decide_eq_false (by omega), cond_false]
  | succ d ih =>
    intro i hd hi
    have hlt : i < l.length := by omega
    have h1 := insAll_len (l.take i)
    rw [List.length_take] at h1
    rw [loopO_step (ins_round hlt hl (by omega) (insAll_wl fun x hx => hw x (List.mem_of_mem_take hx))), ← insAll_snoc, ← List.take_succ_eq_append_getElem hlt]
    exact ih (i + 1) (by omega) (by omega)
noncomputable def sortedE (l : Sets) : Sets × Int := bif okSets l then (insAll l, 0) else ([], 41)
theorem refSorted_eq {l : Sets} (hl : l.length < 2147483648) (hw : ∀ x ∈ l, Wl x) : tocsinref26_Sorted l = some (sortedE l) := by
  have h := ins_loop hl hw l.length 0 (by omega) (by omega)
  rw [List.take_zero, show insAll [] = [] from rfl, show ((0 : Nat) : Int) = 0 from rfl] at h
  unfold tocsinref26_Sorted sortedE
  rw [refSets_eq (by omega), h]
  cases okSets l <;> rfl
theorem eq1 {x y : List S50} (hx : Wl x) : nflog_Sorted_1 x y = some (eqB x y) := by
  unfold nflog_Sorted_1
  rw [compare_eq x y hx]
  simp only [Option.bind_some, eqB]
  congr 1
theorem Sorted_eq {l : Sets} (hl : l.length < 2147483648) (hw : ∀ x ∈ l, Wl x) : nflog_Sorted l = some (sortedE l) := by
  unfold nflog_Sorted sortedE
  rw [right_eq (by omega)]
  simp only [Option.bind_some]
  cases okSets l with
  | false => rfl
  | true =>
    obtain ⟨z, h1, h2, h3⟩ := sortO_ex (Q := fun l : List S50 => l.length ≤ 2147483648) (cmp := labels_Compare) (k := cmpL) (xs := l) hw cmpOk
    have hzl : z.length < 2147483648 := by rw [h2.length_eq]; exact hl
    have hzw : ∀ x ∈ z, Wl x := fun x hx => hw x (h2.mem_iff.1 hx)
    simp only [Bool.not_true, cond_false, sets_eq ⟨by omega, hw⟩, Option.bind_some, h1, compact_eq (z := z) (f := nflog_Sorted_1) (fun x hx y hy => eq1 (hzw x hx)) hzl, dd_ins h2 h3, cond_true]
theorem sortedE_ws {l : Sets} (hl : l.length < 2147483648) (hw : ∀ x ∈ l, Wl x) : Ws (sortedE l).1 := by
  unfold sortedE
  cases okSets l with
  | false => exact ⟨by simp, fun x hx => by simp at hx⟩
  | true => have := insAll_len l; exact ⟨by simp only [cond_true]; omega, insAll_wl hw⟩
/-! ### must it be told? -/
noncomputable def needsE (m : S23) (has : Bool) (now rep : Int) (f r : Sets) : Bool × Int :=
  bif ((((decide (now < 0)) || (decide (now > 1125899906842624))) || (decide (rep < 1))) || (decide (rep > 1099511627776))) then (false, 1)
  else bif (!okSets f || !okSets r) then (false, 41)
  else bif !has then (decide ((f.length : Int) > 0), 0)
  else bif markE m != 0 then (false, markE m)
  else bif !inB f m.f3 then (true, 0)
  else bif ((f.length : Int) == 0) then (decide ((m.f3.length : Int) > 0), 0)
  else bif !inB r m.f4 then (true, 0)
  else (decide (m.f2 ≤ IntKind.wrap .i64 (now - rep)), 0)
theorem Needs_eq {m : S23} (hm : Wm m) (has : Bool) (now rep : Int) {f r : Sets} (hf : Ws f) (hr : Ws r) : nflog_Needs m has now rep f r = some (needsE m has now rep f r) := by
  unfold nflog_Needs needsE
  simp only [right_eq hf.1, right_eq hr.1, Option.bind_some, MRight_eq hm, Within_eq hf hm.1.1, Within_eq hr hm.2.1]
  generalize ((((decide (now < 0)) || (decide (now > 1125899906842624))) || (decide (rep < 1))) || (decide (rep > 1099511627776))) = c
  generalize okSets f = a
  generalize okSets r = b
  generalize (markE m != 0) = d
  generalize inB f m.f3 = e
  generalize ((f.length : Int) == 0) = g
  generalize inB r m.f4 = h
  cases c <;> cases a <;> cases b <;> cases has <;> cases d <;> cases e <;> cases g <;> cases h <;> rfl
theorem refNeeds_eq {m : S23} (hm : Wm m) (has : Bool) (now rep : Int) {f r : Sets} (hf : Ws f) (hr : Ws r) : tocsinref26_Needs m has now rep f r = some (needsE m has now rep f r) := by
  have hc : (((!(tocsinref26_time now)) || (decide (rep < 1))) || (decide (rep > 1099511627776))) = ((((decide (now < 0)) || (decide (now > 1125899906842624))) || (decide (rep < 1))) || (decide (rep > 1099511627776))) := by
    have : (!(tocsinref26_time now)) = ((decide (now < 0)) || (decide (now > 1125899906842624))) := by
      unfold tocsinref26_time
      rw [Bool.eq_iff_iff]
      simp only [Bool.not_eq_true', Bool.and_eq_false_iff, decide_eq_false_iff_not, Bool.or_eq_true, decide_eq_true_eq]
      omega
    rw [this]
  unfold tocsinref26_Needs needsE
  rw [hc]
  simp only [refSets_eq hf.1, refSets_eq hr.1, Option.bind_some, refMRight_eq hm, refWithin_eq hf hm.1.1, refWithin_eq hr hm.2.1]
  generalize ((((decide (now < 0)) || (decide (now > 1125899906842624))) || (decide (rep < 1))) || (decide (rep > 1099511627776))) = c
  generalize okSets f = a
  generalize okSets r = b
  generalize (markE m != 0) = d
  generalize inB f m.f3 = e
  generalize ((f.length : Int) == 0) = g
  generalize inB r m.f4 = h
  cases c <;> cases a <;> cases b <;> cases has <;> cases d <;> cases e <;> cases g <;> cases h <;> rfl
end Go.Proofs.YtcnnbaneoehilaaDoor

set_option linter.unusedVariables false
set_option linter.unusedSimpArgs false
set_option maxRecDepth 100000
namespace Go.Proofs.YtcnnbaneoehilaaDoor
open Go.GB Go.Lib
theorem needs_true {m : S23} (hm : Wm m) (has : Bool) (now rep : Int) {f r : Sets} (hf : Ws f) (hr : Ws r) (hfl : f.length < 2147483648) : tocsinlaw26_NflogNeeds m has now rep f r = some true := by
  unfold tocsinlaw26_NflogNeeds
  simp only [mark_eq hm, lent_eq hf, lent_eq hr, Option.bind_some, Needs_eq hm has now rep hf hr, refNeeds_eq hm has now rep hf hr, MRight_eq hm, refMRight_eq hm, Within_eq hf hr.1, refWithin_eq hf hr.1, beq_self_eq_true, bne_self_eq_false, Bool.not_true, cond_false,
    Sorted_eq hfl hf.2, refSorted_eq hfl hf.2, refSets_self (sortedE_ws hfl hf.2), refMark_self hm, refSets_self hf, refSets_self hr, cond_true, awake_true]
theorem Ws_of {I : Imm} {A : Option Addr} {c : Nat} {l : Sets} (h : RepS (Kd.sl kS50) I A c l) : Ws l := by
  refine ⟨h.max, fun x hx => ?_⟩
  obtain ⟨i, hi⟩ := List.getElem?_of_mem hx
  obtain ⟨a, cs, _, hR, _⟩ := h.at_ i x hi
  obtain ⟨A', c', _, hr⟩ := sl_open hR
  exact hr.max
theorem Wm_read {I : Imm} {m : S23} {cs : List Value} (h : kS23.R I m cs) : Wm m := by
  obtain ⟨A1, c1, A2, c2, h1, h2, _⟩ := kS23_open h
  exact ⟨Ws_of h1, Ws_of h2⟩
theorem Ws_read {I : Imm} {l : Sets} {cs : List Value} (h : (Kd.sl (Kd.sl kS50)).R I l cs) : Ws l := by
  obtain ⟨A, c, _, hr⟩ := sl_open h
  exact Ws_of hr
theorem tocsinlaw26_NflogNeeds_true {I : Imm} {c0 c1 c2 c3 c4 c5 : List Value} {n0 n1 n2 n3 n4 n5 : Nat} (a0 : S23) (a1 : Bool) (a2 a3 : Int) (a4 a5 : Sets) (h0 : kS23.R I a0 c0) (h1 : Kd.bool.R I a1 c1) (h2 : (Kd.int .i64).R I a2 c2) (h3 : (Kd.int .i64).R I a3 c3)
    (h4 : (Kd.sl (Kd.sl kS50)).R I a4 c4) (h5 : (Kd.sl (Kd.sl kS50)).R I a5 c5) (w0 : wS23 a0 n0) (w1 : wBool a1 n1) (w2 : (wInt .i64) a2 n2) (w3 : (wInt .i64) a3 n3) (w4 : wSl (wSl wS50) a4 n4) (w5 : wSl (wSl wS50) a5 n5) (hn : n0 + n1 + n2 + n3 + n4 + n5 ≤ 1048576) :
    tocsinlaw26_NflogNeeds a0 a1 a2 a3 a4 a5 = some true :=
  needs_true (Wm_read h0) a1 a2 a3 (Ws_read h4) (Ws_read h5) (by have := w4.len; omega)
end Go.Proofs.YtcnnbaneoehilaaDoor
