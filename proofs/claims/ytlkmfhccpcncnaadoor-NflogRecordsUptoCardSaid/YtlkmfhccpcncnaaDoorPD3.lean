/- The plain law of NflogRecords. -/
import Derived.Test.YtlkmfhccpcncnaaDoorPD2
import Derived.Test.YtlkmfhccpcncnaaDoorH7C
import Derived.KernelRfl
set_option linter.unusedVariables false
set_option maxRecDepth 100000
namespace Go.Proofs.YtlkmfhccpcncnaaDoor
open Go.GB Go.Lib
theorem awake_true : tocsinlaw26_awake = some true := tocsinlaw26_awake_ev _ (by kernel_rfl)
theorem back_even {n : Nat} (hn : n < 4611686018427387904) : tocsinref01_back ((2 * n : Nat) : Int) = (n : Int) := by
  unfold tocsinref01_back
  have e0 : Int.tmod ((2 * n : Nat) : Int) 2 = 0 := by rw [Int.tmod_eq_emod_of_nonneg (by omega)]; omega
  have e1 : Int.tdiv ((2 * n : Nat) : Int) 2 = (n : Int) := by rw [Int.tdiv_eq_ediv_of_nonneg (by omega)]; omega
  rw [e0, e1, wrapU64 (by omega) (by omega), wrap64 (by omega) (by omega)]
  rfl
theorem I_back {pre post : List Int} {n : Nat} (hn : n < 4611686018427387904) (hl : (pre ++ uv (2 * n) ++ post).length ≤ 2147483648) :
    vint_I (pre ++ uv (2 * n) ++ post) (pre.length : Int) = some ((n : Int), ((pre.length + (uv (2 * n)).length : Nat) : Int), 0) := by
  unfold vint_I
  rw [U_back (by omega) hl]
  simp only [Option.bind_some]
  rw [zz_eq (by omega) (by omega), back_even hn]
theorem lists_back {pre post : List Int} {l : Sets} (h : ∀ x ∈ l, (rightE x).1 = 0) (hn : l.length ≤ 500) (hl : (pre ++ encSets l ++ post).length ≤ 2147483648) :
    nflog_lists (pre ++ encSets l ++ post) (pre.length : Int) = some (l, ((pre.length + (encSets l).length : Nat) : Int), true) := by
  unfold nflog_lists
  have eb : pre ++ encSets l ++ post = pre ++ uv l.length ++ (encSs l ++ post) := by simp [encSets]
  have hU := U_back (pre := pre) (n := l.length) (post := encSs l ++ post) (by omega) (by rw [← eb]; exact hl)
  rw [← eb] at hU
  rw [hU]
  simp only [Option.bind_some, show ((0 : Int) != 0) = false from rfl, Bool.false_or, show decide ((l.length : Int) > 500) = false from decide_eq_false (by omega), cond_false]
  have hloop := up_inv (body := nflog_lists_l38 (pre ++ encSets l ++ post) ((l.length : Int), ((pre.length + (uv l.length).length : Nat) : Int), 0)) (fun i => (((pre.length + (uv l.length).length + (encSs (l.take i)).length : Nat) : Int), l.take i, (i : Int))) (n := l.length) (r := .inl (((pre.length + (uv l.length).length + (encSs l).length : Nat) : Int), l)) (fun i hi => by
    unfold nflog_lists_l38
    have h4 := h l[i] (List.getElem_mem hi)
    obtain ⟨rest, hrest⟩ : ∃ rest, encSs l = encSs (l.take i) ++ encL l[i] ++ rest := by
      refine ⟨encSs (l.drop (i + 1)), ?_⟩
      rw [← encSs_take hi]
      unfold encSs
      rw [← List.flatMap_append, List.take_append_drop]
    have e1 : pre ++ encSets l ++ post = (pre ++ uv l.length ++ encSs (l.take i)) ++ encL l[i] ++ (rest ++ post) := by
      rw [eb, hrest]; simp
    have t1 := Read_back (pre := pre ++ uv l.length ++ encSs (l.take i)) (post := rest ++ post) h4 (by rw [← e1]; exact hl)
    rw [← e1] at t1
    rw [show ((pre ++ uv l.length ++ encSs (l.take i)).length : Nat) = pre.length + (uv l.length).length + (encSs (l.take i)).length by simp; omega] at t1
    simp only [show decide ((i : Int) < (l.length : Int)) = true from decide_eq_true (by omega), cond_true, t1, Option.bind_some, show ((0 : Int) != 0) = false from rfl, cond_false]
    rw [app_eq (by simp; omega)]
    simp only [Option.bind_some]
    rw [wrapU64 (by omega) (by omega), encSs_take hi, List.take_add_one, List.getElem?_eq_getElem hi]
    simp only [List.length_append, Option.toList_some]
    congr 4
    omega) (by
    unfold nflog_lists_l38
    simp only [show decide ((l.length : Int) < (l.length : Int)) = false from decide_eq_false (by omega), cond_false, List.take_length]) 0 (Nat.zero_le _)
  simp only [List.take_zero, encSs, List.flatMap_nil, List.length_nil, Nat.add_zero, Int.natCast_zero] at hloop
  rw [hloop]
  simp only [Option.bind_some]
  congr 3
  simp [encSets, encSs]
  omega
theorem MRead_back {m : S23} (hm : Wm m) (h : markE m = 0) : nflog_Read (encMark m) = some (m, 0) := by
  obtain ⟨t0, t1, t2, l3, l4, r3, r4⟩ := mark_parts h
  obtain ⟨k0, v0⟩ := textB_parts t0
  obtain ⟨k1, v1⟩ := textB_parts t1
  have h3 := rising_all r3
  have h4 := rising_all r4
  have n3 := encSets_len h3 l3
  have n4 := encSets_len h4 l4
  have u0 := uv_len m.f0.size
  have u1 := uv_len m.f1.size
  have u2 := uv_len (2 * m.f2.toNat)
  have hl : (encMark m).length ≤ 2147483648 := by simp only [encMark, encText, List.length_append, bytesOf_length]; omega
  have a0 := Text_back (pre := []) (post := encText m.f1 ++ uv (2 * m.f2.toNat) ++ encSets m.f3 ++ encSets m.f4) (s := m.f0) (most := 64) k0 (by omega) v0 (by simpa [encMark, encText] using hl)
  have b0 : [] ++ (uv m.f0.size ++ bytesOf m.f0) ++ (encText m.f1 ++ uv (2 * m.f2.toNat) ++ encSets m.f3 ++ encSets m.f4) = encMark m := by simp [encMark, encText]
  rw [b0] at a0
  have a1 := Text_back (pre := encText m.f0) (post := uv (2 * m.f2.toNat) ++ encSets m.f3 ++ encSets m.f4) (s := m.f1) (most := 65536) k1 (by omega) v1 (by simpa [encMark, encText] using hl)
  have b1 : encText m.f0 ++ (uv m.f1.size ++ bytesOf m.f1) ++ (uv (2 * m.f2.toNat) ++ encSets m.f3 ++ encSets m.f4) = encMark m := by simp [encMark, encText]
  rw [b1] at a1
  have a2 := I_back (pre := encText m.f0 ++ encText m.f1) (post := encSets m.f3 ++ encSets m.f4) (n := m.f2.toNat) (by omega) (by simpa [encMark, encText] using hl)
  have b2 : encText m.f0 ++ encText m.f1 ++ uv (2 * m.f2.toNat) ++ (encSets m.f3 ++ encSets m.f4) = encMark m := by simp [encMark, encText]
  rw [b2] at a2
  have a3 := lists_back (pre := encText m.f0 ++ encText m.f1 ++ uv (2 * m.f2.toNat)) (post := encSets m.f4) h3 l3 (by simpa [encMark, encText] using hl)
  have b3 : encText m.f0 ++ encText m.f1 ++ uv (2 * m.f2.toNat) ++ encSets m.f3 ++ encSets m.f4 = encMark m := by simp [encMark, encText]
  rw [b3] at a3
  have a4 := lists_back (pre := encText m.f0 ++ encText m.f1 ++ uv (2 * m.f2.toNat) ++ encSets m.f3) (post := []) h4 l4 (by simpa [encMark, encText] using hl)
  have b4 : encText m.f0 ++ encText m.f1 ++ uv (2 * m.f2.toNat) ++ encSets m.f3 ++ encSets m.f4 ++ [] = encMark m := by simp [encMark, encText]
  rw [b4] at a4
  have c0 : vint_Text (encMark m) 0 64 = some (m.f0, (((encText m.f0).length : Nat) : Int), 0) := by
    have e : ([] : List Int).length + (uv m.f0.size ++ bytesOf m.f0).length = (encText m.f0).length := by simp only [encText, List.length_append, List.length_nil]; omega
    rw [e] at a0; exact a0
  have c1 : vint_Text (encMark m) (((encText m.f0).length : Nat) : Int) 65536 = some (m.f1, (((encText m.f0 ++ encText m.f1).length : Nat) : Int), 0) := by
    have e : (encText m.f0).length + (uv m.f1.size ++ bytesOf m.f1).length = (encText m.f0 ++ encText m.f1).length := by simp only [encText, List.length_append]
    rw [e] at a1; exact a1
  have c2 : vint_I (encMark m) (((encText m.f0 ++ encText m.f1).length : Nat) : Int) = some (((m.f2.toNat : Nat) : Int), (((encText m.f0 ++ encText m.f1 ++ uv (2 * m.f2.toNat)).length : Nat) : Int), 0) := by
    have e : (encText m.f0 ++ encText m.f1).length + (uv (2 * m.f2.toNat)).length = (encText m.f0 ++ encText m.f1 ++ uv (2 * m.f2.toNat)).length := by simp only [List.length_append]
    rw [e] at a2; exact a2
  have c3 : nflog_lists (encMark m) (((encText m.f0 ++ encText m.f1 ++ uv (2 * m.f2.toNat)).length : Nat) : Int) = some (m.f3, (((encText m.f0 ++ encText m.f1 ++ uv (2 * m.f2.toNat) ++ encSets m.f3).length : Nat) : Int), true) := by
    have e : (encText m.f0 ++ encText m.f1 ++ uv (2 * m.f2.toNat)).length + (encSets m.f3).length = (encText m.f0 ++ encText m.f1 ++ uv (2 * m.f2.toNat) ++ encSets m.f3).length := by simp only [List.length_append]
    rw [e] at a3; exact a3
  unfold nflog_Read nflog_read
  rw [c0]
  simp only [Option.bind_some]
  rw [c1]
  simp only [Option.bind_some]
  rw [c2]
  simp only [Option.bind_some]
  rw [c3]
  simp only [Option.bind_some]
  rw [a4]
  simp only [Option.bind_some]
  have e5 : ((encText m.f0 ++ encText m.f1 ++ uv (2 * m.f2.toNat) ++ encSets m.f3).length + (encSets m.f4).length : Nat) = (encMark m).length := by simp [encMark]; omega
  rw [e5]
  have e6 : (⟨m.f0, m.f1, ((m.f2.toNat : Nat) : Int), m.f3, m.f4⟩ : S23) = m := by
    rw [show ((m.f2.toNat : Nat) : Int) = m.f2 by omega]
  simp only [e6, beq_self_eq_true, Bool.and_self, Bool.not_true, cond_false, cond_true, Option.bind_some, MRight_eq hm, h]
  rfl
theorem records_true {m : S23} {b : List Int} (hm : Wm m) (hb : Bytes b) (hl : b.length ≤ 2147483648) : tocsinlaw26_NflogRecords m b = some true := by
  unfold tocsinlaw26_NflogRecords
  obtain ⟨v, hv, hv', hvm⟩ := MRead_both hb hl
  rw [mark_eq hm]
  simp only [Option.bind_some]
  rw [Record_eq hm, refRecord_eq hm, hv, hv']
  simp only [Option.bind_some, refMark_self hm, refMark_self hvm]
  by_cases h : markE m = 0
  · simp only [h, if_true, beq_self_eq_true, Bool.not_true, cond_false, bne_self_eq_false, Option.bind_some, MRead_back hm h, cond_true, refMark_self hm, awake_true]
  · simp only [if_neg h, beq_self_eq_true, Bool.not_true, cond_false, bne_self_eq_false, Option.bind_some, show (markE m != 0) = true by simpa using h, cond_true, awake_true]
theorem Ws_of {I : Imm} {A : Option Addr} {c : Nat} {l : Sets} (h : RepS (Kd.sl kS79) I A c l) : Ws l := by
  refine ⟨h.max, fun x hx => ?_⟩
  obtain ⟨i, hi⟩ := List.getElem?_of_mem hx
  obtain ⟨a, cs, _, hR, _⟩ := h.at_ i x hi
  obtain ⟨A', c', _, hr⟩ := sl_open hR
  exact hr.max
theorem Wm_read {I : Imm} {m : S23} {cs : List Value} (h : kS23.R I m cs) : Wm m := by
  obtain ⟨A1, c1, A2, c2, h1, h2, _⟩ := kS23_open h
  exact ⟨Ws_of h1, Ws_of h2⟩
theorem Bytes_read {l : List Int} {n : Nat} (h : wSl (wInt .u8) l n) : Bytes l := fun x hx => by
  obtain ⟨a, h1, _⟩ := h.mem hx
  have e1 : IntKind.min .u8 = 0 := by decide
  have e2 : IntKind.max .u8 = 255 := by decide
  unfold wInt at h1
  rw [e1, e2] at h1
  omega
theorem tocsinlaw26_NflogRecords_true {I : Imm} {c0 c1 : List Value} {n0 n1 : Nat} (a0 : S23) (a1 : List Int) (h0 : kS23.R I a0 c0) (h1 : (Kd.sl (Kd.int .u8)).R I a1 c1) (w0 : wS23 a0 n0) (w1 : wSl (wInt .u8) a1 n1) (hn : n0 + n1 ≤ 1048576) : tocsinlaw26_NflogRecords a0 a1 = some true :=
  records_true (Wm_read h0) (Bytes_read w1) (by have := w1.len; omega)
end Go.Proofs.YtlkmfhccpcncnaaDoor
