/- The plain law of NflogApart, and from data to it. -/
import Derived.Test.YtlkmfhccpcncnaaDoorGP3
set_option linter.unusedVariables false
set_option maxRecDepth 100000
namespace Go.Proofs.YtlkmfhccpcncnaaDoor
open Go.GB
def zm : S23 := ⟨⟨#[]⟩, ⟨#[]⟩, 0, [], []⟩
theorem zm_wm : Wm zm := ⟨⟨by decide, fun x h => by cases h⟩, ⟨by decide, fun x h => by cases h⟩⟩
theorem Find_nil (k0 k1 : ByteArray) : nflog_Log_Find ⟨⟨[]⟩⟩ k0 k1 = some (zm, false) := by
  unfold nflog_Log_Find
  rw [find_eq [] _ (by decide)]
  rfl
theorem Find_at (l : List S86) (hl : l.length ≤ 2147483648) {k0 k1 : ByteArray} {i : Nat} {e : S86} (hi : l.findIdx? (ge ⟨k0, k1⟩) = some i) (he : l[i]? = some e) (hw : Wm e.f1) : nflog_Log_Find ⟨⟨l⟩⟩ k0 k1 = some (if keyEq e.f0 ⟨k0, k1⟩ then (e.f1, true) else (zm, false)) := by
  unfold nflog_Log_Find
  simp only [find_eq l ⟨k0, k1⟩ hl, hi, he, Option.bind_some]
  cases hk : keyEq e.f0 ⟨k0, k1⟩ with
  | false => rfl
  | true =>
    simp only [Bool.not_true, cond_false, ix_nat, he, Option.bind_some, own_eq hw]
    rfl
theorem Find_out (l : List S86) (hl : l.length ≤ 2147483648) {k0 k1 : ByteArray} (hi : l.findIdx? (ge ⟨k0, k1⟩) = none) : nflog_Log_Find ⟨⟨l⟩⟩ k0 k1 = some (zm, false) := by
  unfold nflog_Log_Find
  simp only [find_eq l ⟨k0, k1⟩ hl, hi, Option.bind_some]
  rfl
theorem ge_self (k : S82) (m : S23) : ge k ⟨k, m⟩ = true := by unfold ge; rw [kc_self]; rfl
theorem keyEq_self (k : S82) : keyEq k k = true := keyEq_iff.2 rfl
def keyOf (m : S23) : S82 := ⟨m.f0, m.f1⟩
def entOf (m : S23) : S86 := ⟨keyOf m, m⟩
theorem Find_one {m : S23} (hm : Wm m) (k0 k1 : ByteArray) : nflog_Log_Find ⟨⟨[entOf m]⟩⟩ k0 k1 = some (if keyEq (keyOf m) ⟨k0, k1⟩ then (m, true) else (zm, false)) := by
  cases hg : ge ⟨k0, k1⟩ (entOf m) with
  | true => exact Find_at [entOf m] (by simp) (i := 0) (e := entOf m) (by simp [List.findIdx?_cons, hg]) rfl hm
  | false =>
    rw [Find_out [entOf m] (by simp) (by simp [List.findIdx?_cons, hg])]
    cases hk : keyEq (keyOf m) ⟨k0, k1⟩ with
    | false => rfl
    | true =>
      have := keyEq_iff.1 hk
      have h2 := ge_self ⟨k0, k1⟩ m
      rw [← this] at h2
      rw [← this] at hg
      unfold entOf at hg
      rw [h2] at hg
      cases hg
theorem Put_nil {m : S23} (hm : Wm m) : (∃ w, nflog_Log_Put ⟨⟨[]⟩⟩ m = some (w, ⟨⟨[]⟩⟩)) ∨ nflog_Log_Put ⟨⟨[]⟩⟩ m = some (0, ⟨⟨[entOf m]⟩⟩) := by
  obtain ⟨w, hw⟩ := ok_def (Right_ok hm)
  unfold nflog_Log_Put
  simp only [hw, Option.bind_some]
  cases h0 : (w != 0) with
  | true => exact .inl ⟨w, rfl⟩
  | false =>
    right
    simp only [cond_false, Find_nil, Option.bind_some, Bool.false_and, Bool.not_false, cond_true, own_eq hm, nflog_list_put, find_eq [] _ (show ([] : List S86).length ≤ 2147483648 by decide), List.findIdx?_nil]
    rfl
theorem Put_one {m n : S23} (hm : Wm m) (hn : Wm n) (hk : keyEq (keyOf m) (keyOf n) = false) : (∃ w, nflog_Log_Put ⟨⟨[entOf m]⟩⟩ n = some (w, ⟨⟨[entOf m]⟩⟩)) ∨
    nflog_Log_Put ⟨⟨[entOf m]⟩⟩ n = some (0, ⟨⟨if ge (keyOf n) (entOf m) then [entOf n, entOf m] else [entOf m, entOf n]⟩⟩) := by
  obtain ⟨w, hw⟩ := ok_def (Right_ok hn)
  unfold nflog_Log_Put
  simp only [hw, Option.bind_some]
  cases h0 : (w != 0) with
  | true => exact .inl ⟨w, rfl⟩
  | false =>
    right
    have hF := Find_one hm n.f0 n.f1
    have hk' : keyEq (keyOf m) ⟨n.f0, n.f1⟩ = false := hk
    rw [hk'] at hF
    simp only [Bool.false_eq_true, if_false] at hF
    have hlen : decide (nflog_Log_Len ⟨⟨[entOf m]⟩⟩ ≥ 500) = false := by simp [nflog_Log_Len]
    simp only [cond_false, hF, Option.bind_some, Bool.false_and, Bool.not_false, cond_true, hlen, own_eq hn, nflog_list_put, find_eq [entOf m] _ (show [entOf m].length ≤ 2147483648 by simp)]
    cases hg : ge (keyOf n) (entOf m) with
    | true =>
      have hi : [entOf m].findIdx? (ge ⟨n.f0, n.f1⟩) = some 0 := by
        have : ge ⟨n.f0, n.f1⟩ (entOf m) = true := hg
        simp [List.findIdx?_cons, this]
      have hk2 : keyEq (entOf m).f0 ⟨n.f0, n.f1⟩ = false := hk
      simp only [hi, List.getElem?_cons_zero, Option.bind_some, hk2, cond_false]
      rfl
    | false =>
      have hi : [entOf m].findIdx? (ge ⟨n.f0, n.f1⟩) = none := by
        have : ge ⟨n.f0, n.f1⟩ (entOf m) = false := hg
        simp [List.findIdx?_cons, this]
      simp only [hi, Option.bind_some, cond_false]
      rfl
theorem keyEq_comm {a b : S82} (h : keyEq a b = false) : keyEq b a = false := by
  cases hb : keyEq b a with
  | false => rfl
  | true =>
    have := keyEq_iff.1 hb
    subst this
    rw [h] at hb; cases hb
theorem finds_same {a b : S23} (ha : Wm a) (hb : Wm b) (hk : keyEq (keyOf a) (keyOf b) = false) :
    ∃ w1 w2 L1 L2 y, nflog_Log_Put ⟨⟨[]⟩⟩ a = some (w1, L1) ∧ nflog_Log_Put L1 b = some (w2, L2) ∧ nflog_Log_Find L1 a.f0 a.f1 = some y ∧ nflog_Log_Find L2 a.f0 a.f1 = some y ∧ Wm y.1 := by
  have hself : keyEq (keyOf a) ⟨a.f0, a.f1⟩ = true := keyEq_self _
  have hkb : keyEq (keyOf b) ⟨a.f0, a.f1⟩ = false := keyEq_comm hk
  rcases Put_nil ha with ⟨w, h1⟩ | h1
  · rcases Put_nil hb with ⟨w', h2⟩ | h2
    · exact ⟨w, w', _, _, (zm, false), h1, h2, Find_nil _ _, Find_nil _ _, zm_wm⟩
    · refine ⟨w, 0, _, _, (zm, false), h1, h2, Find_nil _ _, ?_, zm_wm⟩
      rw [Find_one hb, hkb]; rfl
  · have hF : nflog_Log_Find ⟨⟨[entOf a]⟩⟩ a.f0 a.f1 = some (a, true) := by rw [Find_one ha, hself]; rfl
    rcases Put_one ha hb hk with ⟨w', h2⟩ | h2
    · exact ⟨0, w', _, _, (a, true), h1, h2, hF, hF, ha⟩
    · refine ⟨0, 0, _, _, (a, true), h1, h2, hF, ?_, ha⟩
      have hga : ge ⟨a.f0, a.f1⟩ (entOf a) = true := ge_self _ _
      cases hg : ge (keyOf b) (entOf a) with
      | true =>
        simp only [if_true]
        have hgb : ge ⟨a.f0, a.f1⟩ (entOf b) = false := by
          have h3 : nflog_key_compare (keyOf a) (keyOf b) ≥ 0 := of_decide_eq_true hg
          have h4 : nflog_key_compare (keyOf a) (keyOf b) ≠ 0 := fun h => by
            have := keyEq_iff.2 (kc_zero h)
            rw [hk] at this; cases this
          have h5 := kc_swap (keyOf a) (keyOf b)
          exact decide_eq_false (by show ¬ nflog_key_compare (keyOf b) (keyOf a) ≥ 0; omega)
        rw [Find_at [entOf b, entOf a] (by simp) (i := 1) (e := entOf a) (by simp [List.findIdx?_cons, hgb, hga]) rfl ha]
        rw [show (entOf a).f0 = keyOf a from rfl, hself]; rfl
      | false =>
        simp only [Bool.false_eq_true, if_false]
        rw [Find_at [entOf a, entOf b] (by simp) (i := 0) (e := entOf a) (by simp [List.findIdx?_cons, hga]) rfl ha]
        rw [show (entOf a).f0 = keyOf a from rfl, hself]; rfl
theorem apart_true (a b : S23) (now rep : Int) (ha : Wm a) (hb : Wm b) : tocsinlaw26_NflogApart a b now rep = some true := by
  unfold tocsinlaw26_NflogApart
  cases hk : ((a.f0.toList == b.f0.toList) && (a.f1.toList == b.f1.toList)) with
  | true => simp only [cond_true, awake_true]; rfl
  | false =>
    simp only [cond_false]
    obtain ⟨w1, w2, L1, L2, y, h1, h2, h3, h4, hy⟩ := finds_same ha hb hk
    have h1' : nflog_Log_Put (⟨(⟨nflog_New.f0.f0⟩ : S75)⟩ : S77) a = some (w1, L1) := h1
    obtain ⟨z, hz⟩ := ok_def (Needs_ok hy y.2 now rep ha.1 hb.2)
    have hN : ∀ L, nflog_Log_Find L a.f0 a.f1 = some y → nflog_Log_Needs L a.f0 a.f1 now rep a.f3 b.f4 = some (z.1, z.2) := fun L hL => by
      unfold nflog_Log_Needs
      simp only [hL, Option.bind_some, hz]
    simp only [h1', h2, h3, h4, hN L1 h3, hN L2 h4, Option.bind_some, refMark_self hy, awake_true]
    simp
theorem Ws_of {I : Imm} {A : Option Addr} {c : Nat} {l : List (List S79)} (h : RepS (Kd.sl kS79) I A c l) : Ws l := by
  refine ⟨h.max, fun x hx => ?_⟩
  obtain ⟨i, hi⟩ := List.getElem?_of_mem hx
  obtain ⟨a, cs, _, hR, _⟩ := h.at_ i x hi
  obtain ⟨A', c', _, hr⟩ := sl_open hR
  exact hr.max
theorem Wm_of {I : Imm} {m : S23} {cs : List Value} (h : kS23.R I m cs) : Wm m := by
  obtain ⟨A1, c1, A2, c2, h1, h2, _⟩ := kS23_open h
  exact ⟨Ws_of h1, Ws_of h2⟩
theorem tocsinlaw26_NflogApart_true {I : Imm} {c0 c1 c2 c3 : List Value} (a0 a1 : S23) (a2 a3 : Int) (h0 : kS23.R I a0 c0) (h1 : kS23.R I a1 c1) (_ : (Kd.int .i64).R I a2 c2) (_ : (Kd.int .i64).R I a3 c3) : tocsinlaw26_NflogApart a0 a1 a2 a3 = some true :=
  apart_true a0 a1 a2 a3 (Wm_of h0) (Wm_of h1)
end Go.Proofs.YtlkmfhccpcncnaaDoor
