/- labels.quoted at any text: what the replacer answers, written out. -/
import Derived.Test.YtnlkfajnaelnnaaGreatDoorT6k
import Derived.Test.YtnlkfajnaelnnaaGreatDoorPA3k
set_option linter.unusedVariables false
set_option linter.unusedSimpArgs false
namespace Go.Proofs.YtnlkfajnaelnnaaGreatDoor
open Go.RowKit Go.GB
def qB (c : UInt8) : List UInt8 := if c.toNat = 92 ∨ c.toNat = 34 then [92, c] else if c.toNat = 10 then [92, 110] else [c]
def qBody (v : List UInt8) : List UInt8 := v.flatMap qB
namespace RQ
def bI (l : List UInt8) : List Int := l.map fun b => (b.toNat : Int)
theorem bI_len (l : List UInt8) : (bI l).length = l.length := by simp [bI]
theorem qc (c : UInt8) (v : List UInt8) : qBody (c :: v) = qB c ++ qBody v := by simp [qBody]
def spec (c : UInt8) : Bool := c == 10 || (c == 34 || c == 92)
def tq (n : Nat) : List Int := if n = 10 then [92, 110] else if n = 34 then [92, 34] else if n = 92 then [92, 92] else []
theorem tab_at (c : UInt8) : ix tabQ (c.toNat : Int) = some (tq c.toNat) := by
  rw [ix_nat, tabQ, List.getElem?_map, List.getElem?_range (UInt8.toNat_lt c)]; rfl
theorem fin_u8 {P : UInt8 → Prop} (h : ∀ n : Fin 256, P (UInt8.ofNat n.val)) (c : UInt8) : P c := by
  have := h ⟨c.toNat, UInt8.toNat_lt c⟩
  simpa using this
theorem spec_tab : ∀ c : UInt8, (!(tq c.toNat).isEmpty) = spec c := fin_u8 (by decide +kernel)
theorem spec_len : ∀ c : UInt8, (qB c).length = if spec c then 2 else 1 := fin_u8 (by decide +kernel)
theorem spec_row : ∀ c : UInt8, spec c = true → tq c.toNat = bI (qB c) ∧ (tq c.toNat).length = 2 := fin_u8 (by decide +kernel)
theorem spec_not : ∀ c : UInt8, spec c = false → qB c = [c] := fin_u8 (by decide +kernel)
theorem q_len : ∀ l : List UInt8, (qBody l).length = l.length + l.countP spec
  | [] => rfl
  | c :: l => by
    rw [qc, List.length_append, q_len l, spec_len, List.countP_cons, List.length_cons]
    cases spec c <;> simp <;> omega
theorem q_same : ∀ l : List UInt8, l.countP spec = 0 → qBody l = l
  | [], _ => rfl
  | c :: l, h => by
    rw [List.countP_cons] at h
    have h1 : spec c = false := by
      cases hc : spec c with
      | false => rfl
      | true => rw [hc] at h; simp at h
    rw [qc, spec_not c h1, q_same l (by omega)]; rfl
theorem count_three : ∀ l : List UInt8, l.countP spec = l.count 10 + l.count 34 + l.count 92
  | [] => rfl
  | c :: l => by
    rw [List.countP_cons, count_three l, List.count_cons, List.count_cons, List.count_cons]
    have : ∀ c : UInt8, (if spec c = true then 1 else 0) = (if (c == 10) = true then 1 else 0) + (if (c == 34) = true then 1 else 0) + (if (c == 92) = true then 1 else 0) := fin_u8 (by decide +kernel)
    rw [this c]; omega
theorem wr {n : Nat} {z : Int} (h : z = (n : Int)) (hn : n < 4294967296) : IntKind.wrap .i64 z = (n : Int) := by rw [wrap64 (by omega) (by omega), h]
theorem l22_step {s : ByteArray} {n i : Nat} {any : Bool} {w : UInt8} (hs : s.size ≤ 1048576) (hn : n ≤ 10000000) (hi : i < 3) (hw : wordsQ[i]? = some ⟨#[w]⟩) (hl : (tq w.toNat).length = 2) :
    RP.strings_byteStringReplacer_Replace_l22 (tabQ, wordsQ) s ((n : Int), any, (i : Int)) = some (.inl (((n + s.data.toList.count w : Nat) : Int), any || decide (s.data.toList.count w ≠ 0), ((i + 1 : Nat) : Int))) := by
  have hc : s.data.toList.count w ≤ 1048576 := Nat.le_trans List.count_le_length (by rw [size_list]; exact hs)
  have e1 : RP.strings_Count s ⟨#[w]⟩ = some ((s.data.toList.count w : Nat) : Int) := rfl
  have e2 : bx (⟨#[w]⟩ : ByteArray) 0 = some (w.toNat : Int) := rfl
  have e3 : (wordsQ.length : Int) = 3 := rfl
  have e0 : ix wordsQ (i : Int) = some ⟨#[w]⟩ := by rw [ix_nat]; exact hw
  unfold RP.strings_byteStringReplacer_Replace_l22
  simp only [e3, show decide ((i : Int) < 3) = true from decide_eq_true (by omega), cond_true, e0, Option.bind_some, e1, e2, tab_at, wrap_up (show i < 4294967296 by omega)]
  by_cases h0 : s.data.toList.count w = 0
  · rw [h0]
    simp
  · rw [show ((((s.data.toList.count w : Nat) : Int) != 0) = true) from by rw [bne_iff_ne]; omega]
    simp only [cond_true, Option.bind_some, hl]
    have w1 : IntKind.wrap .i64 (((2 : Nat) : Int) - 1) = 1 := by decide
    have w2 : IntKind.wrap .i64 (((s.data.toList.count w : Nat) : Int) * 1) = ((s.data.toList.count w : Nat) : Int) := wr (by omega) (by omega)
    have w3 : IntKind.wrap .i64 ((n : Int) + ((s.data.toList.count w : Nat) : Int)) = ((n + s.data.toList.count w : Nat) : Int) := wr (by omega) (by omega)
    rw [w1, w2, w3, decide_eq_true h0, Bool.or_true]
theorem l22_eq {s : ByteArray} (hs : s.size ≤ 1048576) : loopO (RP.strings_byteStringReplacer_Replace_l22 (tabQ, wordsQ) s) ((s.size : Int), false, 0) = some (((qBody s.data.toList).length : Int), decide (s.data.toList.countP spec ≠ 0)) := by
  have c1 : s.data.toList.count 10 ≤ 1048576 := Nat.le_trans List.count_le_length (by rw [size_list]; exact hs)
  have c2 : s.data.toList.count 34 ≤ 1048576 := Nat.le_trans List.count_le_length (by rw [size_list]; exact hs)
  have s1 := l22_step (n := s.size) (i := 0) (any := false) (w := 10) hs (by omega) (by omega) rfl rfl
  have s2 := l22_step (n := s.size + s.data.toList.count 10) (i := 1) (any := false || decide (s.data.toList.count 10 ≠ 0)) (w := 34) hs (by omega) (by omega) rfl rfl
  have s3 := l22_step (n := s.size + s.data.toList.count 10 + s.data.toList.count 34) (i := 2) (any := (false || decide (s.data.toList.count 10 ≠ 0)) || decide (s.data.toList.count 34 ≠ 0)) (w := 92) hs (by omega) (by omega) rfl rfl
  rw [show ((0 : Int)) = ((0 : Nat) : Int) from rfl, loopO_step s1, loopO_step s2, loopO_step s3]
  rw [loopO_done (r := (((s.size + s.data.toList.count 10 + s.data.toList.count 34 + s.data.toList.count 92 : Nat) : Int), ((false || decide (s.data.toList.count 10 ≠ 0)) || decide (s.data.toList.count 34 ≠ 0)) || decide (s.data.toList.count 92 ≠ 0))) (by
    unfold RP.strings_byteStringReplacer_Replace_l22
    rw [show (((tabQ, wordsQ).2.length : Int)) = 3 from rfl]
    rfl)]
  rw [q_len, count_three, size_list]
  have e1 : (((false || decide (s.data.toList.count 10 ≠ 0)) || decide (s.data.toList.count 34 ≠ 0)) || decide (s.data.toList.count 92 ≠ 0)) = decide (s.data.toList.count 10 + s.data.toList.count 34 + s.data.toList.count 92 ≠ 0) := by
    rw [Bool.eq_iff_iff]
    simp only [Bool.false_or, Bool.or_eq_true, decide_eq_true_eq]
    omega
  rw [e1]
  congr 3
  omega
theorem l69_eq {s : ByteArray} (hs : s.size ≤ 1048576) : ∀ (rest : List UInt8) (i n : Nat) (any : Bool), s.data.toList.drop i = rest → n + rest.length ≤ 4000000 → loopO (RP.strings_byteStringReplacer_Replace_l69 (tabQ, wordsQ) s) ((n : Int), any, (i : Int)) = some (((n + rest.countP spec : Nat) : Int), any || decide (rest.countP spec ≠ 0))
  | [], i, n, any, h, hn => by
    have h1 : s.size ≤ i := by have := List.drop_eq_nil_iff.1 h; rwa [size_list] at this
    refine (loopO_done (r := ((n : Int), any)) ?_).trans (by simp)
    unfold RP.strings_byteStringReplacer_Replace_l69
    simp only [show decide ((i : Int) < (s.size : Int)) = false from decide_eq_false (by omega), cond_false]
  | c :: rest, i, n, any, h, hn => by
    have h1 : i < s.size := by
      have := congrArg List.length h
      rw [List.length_drop, size_list] at this
      simp at this; omega
    have h2 : bx s (i : Int) = some (c.toNat : Int) := by
      rw [bx_at h1]
      have := congrArg (fun l : List UInt8 => l[0]?) h
      simp only [List.getElem?_drop, Nat.add_zero, List.getElem?_cons_zero] at this
      rw [List.getD_eq_getElem?_getD, this]; rfl
    have h3 : s.data.toList.drop (i + 1) = rest := by rw [← List.drop_drop, h]; rfl
    simp only [List.length_cons] at hn
    have st : RP.strings_byteStringReplacer_Replace_l69 (tabQ, wordsQ) s ((n : Int), any, (i : Int)) = some (.inl (((n + (if spec c then 1 else 0) : Nat) : Int), any || spec c, ((i + 1 : Nat) : Int))) := by
      unfold RP.strings_byteStringReplacer_Replace_l69
      simp only [show decide ((i : Int) < (s.size : Int)) = true from decide_eq_true (by omega), cond_true, h2, Option.bind_some, tab_at, spec_tab, wrap_up (show i < 4294967296 by omega)]
      cases hc : spec c with
      | false => simp
      | true =>
        have w1 : IntKind.wrap .i64 (((2 : Nat) : Int) - 1) = 1 := by decide
        have w3 : IntKind.wrap .i64 ((n : Int) + 1) = ((n + 1 : Nat) : Int) := wr (by omega) (by omega)
        simp only [cond_true, Option.bind_some, (spec_row c hc).2, w1, w3, if_true, Bool.or_true]
    rw [loopO_step st, l69_eq hs rest (i + 1) _ _ h3 (by split <;> omega), List.countP_cons]
    cases spec c with
    | false => simp
    | true => simp; omega
theorem bI_app (a b : List UInt8) : bI (a ++ b) = bI a ++ bI b := by simp [bI]
theorem l132_eq {s : ByteArray} (hs : s.size ≤ 1048576) : ∀ (rest : List UInt8) (i : Nat) (P : List UInt8) (Z : List Int), s.data.toList.drop i = rest → Z.length = (qBody rest).length → P.length + (qBody rest).length ≤ 4000000 →
    loopO (RP.strings_byteStringReplacer_Replace_l132 (tabQ, wordsQ) s) (bI P ++ Z, (P.length : Int), (i : Int)) = some (bI (P ++ qBody rest))
  | [], i, P, Z, h, hz, hp => by
    have h1 : s.size ≤ i := by have := List.drop_eq_nil_iff.1 h; rwa [size_list] at this
    have hZ : Z = [] := List.eq_nil_of_length_eq_zero hz
    subst hZ
    refine (loopO_done (r := bI P) ?_).trans (by simp [qBody])
    unfold RP.strings_byteStringReplacer_Replace_l132
    simp only [show decide ((i : Int) < (s.size : Int)) = false from decide_eq_false (by omega), cond_false, List.append_nil]
  | c :: rest, i, P, Z, h, hz, hp => by
    have h1 : i < s.size := by
      have := congrArg List.length h
      rw [List.length_drop, size_list] at this
      simp at this; omega
    have h2 : bx s (i : Int) = some (c.toNat : Int) := by
      rw [bx_at h1]
      have := congrArg (fun l : List UInt8 => l[0]?) h
      simp only [List.getElem?_drop, Nat.add_zero, List.getElem?_cons_zero] at this
      rw [List.getD_eq_getElem?_getD, this]; rfl
    have h3 : s.data.toList.drop (i + 1) = rest := by rw [← List.drop_drop, h]; rfl
    rw [qc, List.length_append] at hz hp
    have hbl : (bI P).length = P.length := bI_len P
    cases hc : spec c with
    | true =>
      obtain ⟨r1, r2⟩ := spec_row c hc
      have hq : (qB c).length = 2 := by rw [spec_len, hc]; rfl
      have e1 : lx (bI P ++ Z) (P.length : Int) ((bI P ++ Z).length : Int) = some Z := by
        unfold lx
        rw [if_pos ⟨by omega, by rw [List.length_append, hbl]; omega, by omega⟩, Int.toNat_natCast, Int.toNat_natCast, List.take_length, ← hbl, List.drop_left]
      have e2 : cpyv (bI P ++ Z) (P.length : Int) Z.length (tq c.toNat) = some (bI (P ++ qB c) ++ Z.drop 2) := by
        unfold cpyv
        rw [if_pos ⟨by omega, by rw [List.length_append, hbl]; omega⟩, bI_app, r1]
        have : Int.toNat (P.length : Int) = (bI P).length := by rw [hbl]; simp
        rw [this, List.take_left, List.drop_left]
        unfold lcopy
        rw [bI_len, List.take_of_length_le (by rw [bI_len]; omega), hq, List.append_assoc]
      have st : RP.strings_byteStringReplacer_Replace_l132 (tabQ, wordsQ) s (bI P ++ Z, (P.length : Int), (i : Int)) = some (.inl (bI (P ++ qB c) ++ Z.drop 2, (((P ++ qB c).length : Nat) : Int), ((i + 1 : Nat) : Int))) := by
        unfold RP.strings_byteStringReplacer_Replace_l132
        simp only [show decide ((i : Int) < (s.size : Int)) = true from decide_eq_true (by omega), cond_true, h2, Option.bind_some, tab_at, spec_tab, hc, e1, e2, r2, wrap_up (show i < 4294967296 by omega)]
        rw [wr (n := (P ++ qB c).length) (by rw [List.length_append, hq, show min 2 Z.length = 2 from by omega]; omega) (by rw [List.length_append]; omega)]
      rw [loopO_step st, l132_eq hs rest (i + 1) _ _ h3 (by rw [List.length_drop]; omega) (by rw [List.length_append]; omega), List.append_assoc, qc]
    | false =>
      have hq := spec_not c hc
      have hq1 : (qB c).length = 1 := by rw [hq]; rfl
      obtain ⟨z, Z', rfl⟩ : ∃ z Z', Z = z :: Z' := by
        cases Z with
        | nil => simp at hz; omega
        | cons z Z' => exact ⟨z, Z', rfl⟩
      have e1 : ix (bI P ++ z :: Z') (P.length : Int) = some z := by
        rw [ix_nat, ← hbl, List.getElem?_append_right (Nat.le_refl _), Nat.sub_self]; rfl
      have e2 : lset (bI P ++ z :: Z') (P.length : Int) (c.toNat : Int) = bI (P ++ qB c) ++ Z' := by
        unfold lset
        have : Int.toNat (P.length : Int) = (bI P).length := by rw [hbl]; simp
        rw [this, List.set_append_right _ _ (Nat.le_refl _), Nat.sub_self, List.set_cons_zero, hq, bI_app, List.append_assoc]; rfl
      have st : RP.strings_byteStringReplacer_Replace_l132 (tabQ, wordsQ) s (bI P ++ z :: Z', (P.length : Int), (i : Int)) = some (.inl (bI (P ++ qB c) ++ Z', (((P ++ qB c).length : Nat) : Int), ((i + 1 : Nat) : Int))) := by
        unfold RP.strings_byteStringReplacer_Replace_l132
        simp only [show decide ((i : Int) < (s.size : Int)) = true from decide_eq_true (by omega), cond_true, h2, Option.bind_some, tab_at, spec_tab, hc, e1, e2, cond_false, wrap_up (show i < 4294967296 by omega)]
        rw [wr (n := (P ++ qB c).length) (by rw [List.length_append, hq1]; omega) (by rw [List.length_append]; omega)]
      simp only [List.length_cons] at hz
      rw [loopO_step st, l132_eq hs rest (i + 1) _ _ h3 (by omega) (by rw [List.length_append]; omega), List.append_assoc, qc]
theorem ofB (l : List UInt8) : ofBytes (bI l) = ⟨l.toArray⟩ := by
  refine ba_eq ?_
  rw [ofBytes_toList]
  unfold bI
  rw [List.map_map]
  conv => rhs; rw [← List.map_id l]
  refine List.map_congr_left fun b _ => ?_
  simp
theorem replace_eq {s : ByteArray} (hs : s.size ≤ 1048576) : RP.strings_byteStringReplacer_Replace (tabQ, wordsQ) s = some ⟨(qBody s.data.toList).toArray⟩ := by
  have hk : s.data.toList.countP spec ≤ 1048576 := Nat.le_trans List.countP_le_length (by rw [size_list]; exact hs)
  have hq := q_len s.data.toList
  rw [size_list] at hq
  have h69 := l69_eq hs s.data.toList 0 s.size false rfl (by rw [size_list]; omega)
  rw [← hq, Bool.false_or, show ((0 : Nat) : Int) = 0 from rfl] at h69
  have hj : (bif (decide ((IntKind.wrap .i64 (((tabQ, wordsQ).2.length : Int) * 8)) ≤ (s.size : Int))) then
    (Option.bind (loopO (RP.strings_byteStringReplacer_Replace_l22 (tabQ, wordsQ) s) ((s.size : Int), false, 0)) fun (r11 : Int × Bool) =>
      some (r11.1, r11.2))
    else
    (Option.bind (loopO (RP.strings_byteStringReplacer_Replace_l69 (tabQ, wordsQ) s) ((s.size : Int), false, 0)) fun (r58 : Int × Bool) =>
      some (r58.1, r58.2))) = some (((qBody s.data.toList).length : Int), decide (s.data.toList.countP spec ≠ 0)) := by
    rw [l22_eq hs, h69]
    simp only [Option.bind_some]
    cases (decide ((IntKind.wrap .i64 (((tabQ, wordsQ).2.length : Int) * 8)) ≤ (s.size : Int))) <;> rfl
  unfold RP.strings_byteStringReplacer_Replace
  rw [hj]
  simp only [Option.bind_some]
  by_cases h0 : s.data.toList.countP spec = 0
  · rw [decide_eq_false (by omega), q_same _ h0]; rfl
  · rw [decide_eq_true h0]
    simp only [Bool.not_true, cond_false]
    have e1 : mkrow (0 : Int) ((qBody s.data.toList).length : Int) ((qBody s.data.toList).length : Int) = some (List.replicate (qBody s.data.toList).length 0) := by
      unfold mkrow
      rw [if_pos ⟨by omega, by omega, by omega⟩]; simp
    have e2 := l132_eq hs s.data.toList 0 [] (List.replicate (qBody s.data.toList).length 0) rfl (by simp) (by simp; omega)
    rw [show bI [] ++ List.replicate (qBody s.data.toList).length (0 : Int) = List.replicate (qBody s.data.toList).length 0 from rfl, List.nil_append, show ((([] : List UInt8).length : Nat) : Int) = 0 from rfl, show ((0 : Nat) : Int) = 0 from rfl] at e2
    simp only [e1, Option.bind_some, e2, ofB]
end RQ
end Go.Proofs.YtnlkfajnaelnnaaGreatDoor
