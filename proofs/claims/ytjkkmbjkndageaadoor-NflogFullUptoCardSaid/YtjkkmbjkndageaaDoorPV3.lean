/- Plain laws: NflogFull: a log of five hundred marks takes no more, but in the place of one. -/
import Derived.Test.YtjkkmbjkndageaaDoorPV1
import Derived.Test.YtjkkmbjkndageaaDoorPV2
set_option linter.unusedVariables false
set_option linter.unusedSimpArgs false
set_option maxRecDepth 100000
namespace Go.Proofs.YtjkkmbjkndageaaDoor
open Go.GB Go.Lib
theorem cb_prefix : ∀ (p a b : List UInt8), compareBytes (p ++ a) (p ++ b) = compareBytes a b
  | [], _, _ => rfl
  | c :: t, a, b => by
    rw [List.cons_append, List.cons_append]
    conv => lhs; unfold compareBytes
    rw [if_neg (UInt8.lt_irrefl c), if_neg (UInt8.lt_irrefl c)]
    exact cb_prefix t a b
noncomputable def encI (i : Nat) : ByteArray := Utf8.encode (IntKind.wrap .i32 (IntKind.wrap .i64 (19968 + (i : Int))))
theorem enc_all : ((List.range 500).all fun i => validD (tL (encI i)) && (decide ((encI i).size ≤ 4) && (decide (499 ≤ i) || decide (compareBytes (tL (encI i)) (tL (encI (i + 1))) = -1)))) = true := by kernel_rfl
theorem enc_at {i : Nat} (h : i < 500) : TOk 4 (encI i) ∧ (i + 1 < 500 → compareBytes (tL (encI i)) (tL (encI (i + 1))) = -1) := by
  have := List.all_eq_true.1 enc_all i (List.mem_range.2 h)
  simp only [Bool.and_eq_true, Bool.or_eq_true, decide_eq_true_eq] at this
  exact ⟨⟨this.1, this.2.1⟩, fun h => this.2.2.resolve_left (by omega)⟩
theorem enc_less {i : Nat} : ∀ {j : Nat}, i < j → j < 500 → compareBytes (tL (encI i)) (tL (encI j)) = -1
  | 0, h, _ => absurd h (Nat.not_lt_zero _)
  | j + 1, h, hj => by
    rcases Nat.lt_or_ge i j with h1 | h1
    · exact cb_trans _ _ _ (enc_less h1 (by omega)) ((enc_at (by omega)).2 hj)
    · obtain rfl : i = j := by omega
      exact (enc_at (by omega)).2 hj
def teamB : ByteArray := ⟨#[116, 101, 97, 109]⟩
noncomputable def keyB (e : ByteArray) (i : Nat) : ByteArray := e ++ ⟨#[107]⟩ ++ encI i
noncomputable def xM (e : ByteArray) (i : Nat) : S23 := ⟨teamB, keyB e i, 5, [], []⟩
theorem keyB_ok {e : ByteArray} (he : TOk 30000 e) {i : Nat} (h : i < 500) : TOk 30005 (keyB e i) := ((he.add (tok_lit [107] (by decide +kernel) 1 (by simp))).add (enc_at h).1).more (by omega)
theorem textB_ok {s : ByteArray} {n m : Nat} (h : TOk n s) (h1 : 1 ≤ s.size) (hn : n ≤ m) : textB s m = true := by
  unfold textB
  have := h.n
  rw [decide_eq_true h1, decide_eq_true (show s.size ≤ m by omega), h.v]; rfl
theorem xM_w (e : ByteArray) (i : Nat) : Wm (xM e i) := ⟨⟨by simp [xM], fun x hx => by cases hx⟩, ⟨by simp [xM], fun x hx => by cases hx⟩⟩
theorem xM_right {e : ByteArray} (he : TOk 30000 e) {i : Nat} (h : i < 500) : markE (xM e i) = 0 := by
  have h1 : textB teamB 64 = true := by decide +kernel
  have h2 : textB (keyB e i) 65536 = true := textB_ok (keyB_ok he h) (by unfold keyB; rw [ByteArray.size_append, ByteArray.size_append]; show 1 ≤ e.size + 1 + _; omega) (by omega)
  have h3 : risingB [] = true := rfl
  unfold markE
  show (if textB teamB 64 = false then (204 : Int) else if textB (keyB e i) 65536 = false then 40 else if (5 : Int) < 0 ∨ (5 : Int) > 1125899906842624 then 1 else if ([] : Sets).length > 500 ∨ ([] : Sets).length > 500 then 8 else if risingB [] && risingB [] then 0 else 41) = 0
  rw [h1, h2, h3]
  rfl
theorem xM_less (e : ByteArray) {i j : Nat} (h : i < j) (hj : j < 500) : kc (keyOf (xM e i)) (keyOf (xM e j)) = -1 := by
  rw [kc_def]
  show (if cmpS teamB teamB = 0 then cmpS (keyB e i) (keyB e j) else cmpS teamB teamB) = -1
  rw [if_pos (cmpS_self _)]
  show compareBytes (tL (keyB e i)) (tL (keyB e j)) = -1
  unfold keyB
  rw [tL_app, tL_app _ (encI j), cb_prefix]
  exact enc_less h hj
noncomputable def xL (e : ByteArray) (n : Nat) : List S23 := (List.range n).map (xM e)
theorem xL_len (e : ByteArray) (n : Nat) : (xL e n).length = n := by simp [xL]
theorem xL_mem {e : ByteArray} {n : Nat} {x : S23} (h : x ∈ xL e n) : ∃ i, i < n ∧ x = xM e i := by
  obtain ⟨i, hi, rfl⟩ := List.mem_map.1 h
  exact ⟨i, List.mem_range.1 hi, rfl⟩
theorem xL_ok (e : ByteArray) {n : Nat} (hn : n ≤ 500) : LOk (xL e n) := by
  refine ⟨by rw [xL_len]; exact hn, fun x hx => ?_, ?_⟩
  · obtain ⟨i, _, rfl⟩ := xL_mem hx
    exact xM_w e i
  · refine List.pairwise_iff_getElem.2 fun i j hi hj hij => ?_
    have hi' := hi
    have hj' := hj
    rw [xL_len] at hi' hj'
    rw [show (xL e n)[i] = xM e i by simp [xL], show (xL e n)[j] = xM e j by simp [xL]]
    exact xM_less e hij (by omega)
theorem xL_put {e : ByteArray} (he : TOk 30000 e) {n : Nat} (hn : n < 500) : putR (xL e n) (xM e n) = (0, xL e (n + 1)) := by
  unfold putR
  rw [if_neg (by rw [xM_right he hn]; simp), List.findIdx?_eq_none_iff.2 fun x hx => ?_]
  · dsimp only
    rw [if_neg (by rw [xL_len]; omega)]
    unfold xL
    rw [List.range_succ, List.map_append]; rfl
  · obtain ⟨i, hi, rfl⟩ := xL_mem hx
    have := xM_less e hi hn
    unfold geM
    exact decide_eq_false (by show ¬ kc _ _ ≥ 0; omega)
theorem round_eq {e : ByteArray} {g : Int} (he : TOk 30000 e) {i : Nat} (h : i < 500) : tocsinlaw26_NflogFull_l53 (e, g) ((xL e i).map entOf, xL e i, (i : Int)) = some (.inl ((xL e (i + 1)).map entOf, xL e (i + 1), ((i + 1 : Nat) : Int))) := by
  have hn := he.n
  have hk := (enc_at h).1.n
  unfold tocsinlaw26_NflogFull_l53
  have s1 : sadd e (⟨#[107]⟩ : ByteArray) = some (e ++ ⟨#[107]⟩) := by unfold sadd; rw [if_pos (by show e.size + 1 ≤ _; omega)]
  have s2 : sadd (e ++ ⟨#[107]⟩) (encI i) = some (keyB e i) := by unfold sadd; rw [if_pos (by rw [ByteArray.size_append]; show e.size + 1 + _ ≤ _; omega)]; rfl
  have hw : Utf8.encode (IntKind.wrap .i32 (IntKind.wrap .i64 (19968 + (i : Int)))) = encI i := rfl
  simp only [decide_eq_true (show (i : Int) < 500 by omega), cond_true, s1, Option.bind_some, hw, s2]
  have hp := PutL_eq (xL_ok e (Nat.le_of_lt h)).n (xL_ok e (Nat.le_of_lt h)).w (xM_w e i)
  rw [xL_put he h] at hp
  rw [show (⟨⟨#[116, 101, 97, 109]⟩, keyB e i, 5, [], []⟩ : S23) = xM e i from rfl, hp]
  simp only [Option.bind_some, bne_self_eq_false, cond_false]
  rw [app_eq (by rw [xL_len]; simp; omega)]
  simp only [Option.bind_some, wrap_up (show i < 4294967296 by omega)]
  have : xL e i ++ [xM e i] = xL e (i + 1) := by unfold xL; rw [List.range_succ, List.map_append]; rfl
  rw [this]
theorem full_loop {e : ByteArray} {g : Int} (he : TOk 30000 e) : loopO (tocsinlaw26_NflogFull_l53 (e, g)) (nflog_New.f0.f0, [], 0) = some (.inl (xL e 500, (xL e 500).map entOf)) := by
  have := up_inv (body := tocsinlaw26_NflogFull_l53 (e, g)) (fun i => ((xL e i).map entOf, xL e i, (i : Int))) (n := 500) (r := .inl (xL e 500, (xL e 500).map entOf)) (fun i hi => round_eq he hi) ?_ 0 (Nat.zero_le _)
  · exact this
  · unfold tocsinlaw26_NflogFull_l53
    simp only [show decide (((500 : Nat) : Int) < 500) = false from rfl, cond_false]
theorem full_true {m : S23} (hm : Wm m) (s : List S53) : tocsinlaw26_NflogFull m s = some true := by
  unfold tocsinlaw26_NflogFull
  obtain ⟨⟨e, g⟩, hp, he⟩ := Print_ok s
  have hn : e.size ≤ 30000 := he.n
  have L0 := xL_ok e (Nat.le_refl 500)
  have L1 := L0.put hm
  have s3 : sadd e (⟨#[107, 228, 184, 133]⟩ : ByteArray) = some (e ++ ⟨#[107, 228, 184, 133]⟩) := by unfold sadd; rw [if_pos (by show e.size + 4 ≤ _; omega)]
  have hm2 : Wm (⟨⟨#[116, 101, 97, 109]⟩, e ++ ⟨#[107, 228, 184, 133]⟩, 6, [], []⟩ : S23) := ⟨⟨by simp, fun x hx => by cases hx⟩, ⟨by simp, fun x hx => by cases hx⟩⟩
  simp only [hp, Option.bind_some, full_loop he]
  rw [show (⟨m.f0, m.f1, m.f2, m.f3, m.f4⟩ : S23) = m from rfl]
  simp only [step_put L0 hm 0 0, Option.bind_some, cond_true, s3, step_put L1 hm2 0 0, nflog_Log_Len, List.length_map, beq_self_eq_true, awake_true]
theorem Ws_of {I : Imm} {A : Option Addr} {c : Nat} {l : Sets} (h : RepS (Kd.sl kS53) I A c l) : Ws l := by
  refine ⟨h.max, fun x hx => ?_⟩
  obtain ⟨i, hi⟩ := List.getElem?_of_mem hx
  obtain ⟨a, cs, _, hR, _⟩ := h.at_ i x hi
  obtain ⟨A', c', _, hr⟩ := sl_open hR
  exact hr.max
theorem Wm_read {I : Imm} {m : S23} {cs : List Value} (h : kS23.R I m cs) : Wm m := by
  obtain ⟨A1, c1, A2, c2, h1, h2, _⟩ := kS23_open h
  exact ⟨Ws_of h1, Ws_of h2⟩
theorem tocsinlaw26_NflogFull_true {I : Imm} {c0 c1 : List Value} {n0 n1 : Nat} (a0 : S23) (a1 : List S53) (h0 : kS23.R I a0 c0) (h1 : (Kd.sl kS53).R I a1 c1) (w0 : wS23 a0 n0) (w1 : wSl wS53 a1 n1) (hn : n0 + n1 ≤ 1048576) :
    tocsinlaw26_NflogFull a0 a1 = some true := full_true (Wm_read h0) a1
end Go.Proofs.YtjkkmbjkndageaaDoor
