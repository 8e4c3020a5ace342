/- Plain laws: what is written in few bytes is read back. -/
import Derived.Test.YtlkmfhccpcncnaaDoorPB4
set_option linter.unusedVariables false
set_option maxRecDepth 100000
namespace Go.Proofs.YtlkmfhccpcncnaaDoor
open Go.GB Go.Lib
theorem bitXor64 {k : IntKind} (hk : k.bits = 64) (a b : Int) : bitXor k a b = k.wrap (((BitVec.ofInt 64 a ^^^ BitVec.ofInt 64 b).toNat : Nat) : Int) := by
  unfold bitXor
  rw [hk]
theorem zz_eq {u : Int} (h0 : 0 ≤ u) (h1 : u < 18446744073709551616) : bitXor .i64 (IntKind.wrap .i64 (shr .u64 u 1)) (IntKind.wrap .i64 (0 - (IntKind.wrap .i64 (bitAnd .u64 u 1)))) = tocsinref01_back u := by
  obtain ⟨n, rfl⟩ : ∃ n : Nat, u = (n : Int) := ⟨u.toNat, by omega⟩
  have hn : n < 18446744073709551616 := by omega
  rw [show (1 : Int) = ((1 : Nat) : Int) from rfl, shr_nat .u64 n 1 (by decide), show ((1 : Nat) : Int) = 1 from rfl, bitAnd1 hn]
  rw [wrap64 (x := ((n % 2 : Nat) : Int)) (by omega) (by omega), wrap64 (x := ((n / 2 ^ 1 : Nat) : Int)) (by omega) (by omega)]
  unfold tocsinref01_back
  have e0 : Int.tmod (n : Int) 2 = ((n % 2 : Nat) : Int) := by rw [Int.tmod_eq_emod_of_nonneg (by omega)]; omega
  have e1 : Int.tdiv (n : Int) 2 = ((n / 2 : Nat) : Int) := by rw [Int.tdiv_eq_ediv_of_nonneg (by omega)]; omega
  rw [e0, e1, wrapU64 (x := ((n / 2 : Nat) : Int)) (by omega) (by omega), wrap64 (x := ((n / 2 : Nat) : Int)) (by omega) (by omega), show n / 2 ^ 1 = n / 2 from by rw [Nat.pow_one]]
  rw [bitXor64 rfl]
  rcases Nat.mod_two_eq_zero_or_one n with h | h
  · rw [h]
    have : BitVec.ofInt 64 (IntKind.wrap .i64 (0 - ((0 : Nat) : Int))) = 0#64 := by decide
    rw [this, BitVec.xor_zero, ofInt_nat _ (by omega), wrap64 (by omega) (by omega)]
    rfl
  · rw [h]
    have : BitVec.ofInt 64 (IntKind.wrap .i64 (0 - ((1 : Nat) : Int))) = BitVec.allOnes 64 := by decide
    rw [this, BitVec.xor_allOnes, BitVec.toNat_not, ofInt_nat _ (by omega)]
    have e3 : (((1 : Nat) : Int) == 0) = false := rfl
    simp only [e3, cond_false]
    rw [wrap64 (x := 0 - ((n / 2 : Nat) : Int)) (by omega) (by omega), wrap64 (x := 0 - ((n / 2 : Nat) : Int) - 1) (by omega) (by omega)]
    unfold IntKind.wrap
    simp [IntKind.bits, IntKind.signed]
    omega
theorem back_range {u : Int} (h0 : 0 ≤ u) (h1 : u < 18446744073709551616) : -9223372036854775808 ≤ tocsinref01_back u ∧ tocsinref01_back u < 9223372036854775808 := by
  unfold tocsinref01_back
  have e1 : Int.tdiv u 2 = u / 2 := Int.tdiv_eq_ediv_of_nonneg h0
  rw [e1, wrapU64 (x := u / 2) (by omega) (by omega), wrap64 (x := u / 2) (by omega) (by omega), wrap64 (x := 0 - u / 2) (by omega) (by omega), wrap64 (x := 0 - u / 2 - 1) (by omega) (by omega)]
  cases Int.tmod u 2 == 0 <;> simp <;> omega
def IOk (len at_ : Nat) (v : Int × Int × Int) : Prop := (v.2.2 = 0 ∧ (at_ : Int) < v.2.1 ∧ v.2.1 ≤ (len : Int)) ∨ (v.2.2 ≠ 0 ∧ v.1 = 0 ∧ v.2.1 = 0)
theorem I_both {b : List Int} (hb : Bytes b) (hl : b.length ≤ 2147483648) (at_ : Int) : ∃ v, vint_I b at_ = some v ∧ tocsinref01_I b at_ = some v ∧ IOk b.length at_.toNat v := by
  unfold vint_I tocsinref01_I
  obtain ⟨⟨n, e, er⟩, h1, h2, h3⟩ := U_both hb hl at_
  rw [h1, h2]
  simp only [Option.bind_some]
  rcases h3 with ⟨h4, h5, h6, h7, h8⟩ | ⟨h4, h5, h6⟩
  · simp only at h4 h5 h6 h7 h8
    subst h4
    rw [zz_eq h7 h8]
    exact ⟨_, rfl, rfl, .inl ⟨rfl, h5, h6⟩⟩
  · simp only at h4 h5 h6
    subst h5
    subst h6
    rw [show (er != 0) = true by simpa using h4, zz_eq (by omega) (by omega)]
    exact ⟨_, rfl, rfl, .inr ⟨h4, rfl, rfl⟩⟩
/-- A number that was written is read. -/
theorem u_back {b : List Int} (hl : b.length ≤ 2147483648) {p : Nat} : ∀ (f i m acc : Nat), m < 128 ^ f → 0 < f → i + f ≤ 10 → acc < 2 ^ (7 * i) → acc + m * 2 ^ (7 * i) < 18446744073709551616 → (0 < i → 0 < m) →
    (∀ j x, (uvF f m)[j]? = some x → b[p + i + j]? = some x) →
    loopO (vint_U_l24 b (p : Int)) ((acc : Int), (i : Int)) = some (.inr (((acc + m * 2 ^ (7 * i) : Nat) : Int), ((p + i + (uvF f m).length : Nat) : Int), 0)) := by
  intro f
  induction f with
  | zero => intro i m acc _ h0; omega
  | succ f ih =>
    intro i m acc hm _ hif hacc hlt hpos hat
    have hi : i ≤ 9 := by omega
    have h0 : b[p + i]? = some (if m < 128 then (m : Int) else ((m % 128 + 128 : Nat) : Int)) := by
      have := hat 0 (if m < 128 then (m : Int) else ((m % 128 + 128 : Nat) : Int)) (by unfold uvF; split <;> rfl)
      simpa using this
    have hpl := (List.getElem?_eq_some_iff.1 h0).1
    have w1 : IntKind.wrap .i64 ((p : Int) + (i : Int)) = ((p + i : Nat) : Int) := by rw [wrap64 (by omega) (by omega)]; omega
    have w3 : IntKind.wrap .i64 (7 * (i : Int)) = ((7 * i : Nat) : Int) := by rw [wrap64 (by omega) (by omega)]; omega
    have w5 : IntKind.wrap .i64 (((p + i : Nat) : Int) + 1) = ((p + i + 1 : Nat) : Int) := by rw [wrap64 (by omega) (by omega)]; omega
    have w6 : IntKind.wrap .i64 ((i : Int) + 1) = ((i + 1 : Nat) : Int) := wrap_up (by omega)
    have d1 : decide (((p + i : Nat) : Int) ≥ (b.length : Int)) = false := decide_eq_false (by omega)
    have hx : ix b ((p + i : Nat) : Int) = some (if m < 128 then (m : Int) else ((m % 128 + 128 : Nat) : Int)) := by rw [ix_nat, h0]
    obtain ⟨P, hP⟩ : ∃ P, 2 ^ (7 * i) = P := ⟨_, rfl⟩
    have hPpos : 0 < P := by rw [← hP]; exact Nat.two_pow_pos _
    have hmod : m % 128 * P ≤ m * P := Nat.mul_le_mul_right _ (Nat.mod_le _ _)
    have q1 : shlx .u64 (IntKind.wrap .u64 ((m % 128 : Nat) : Int)) ((7 * i : Nat) : Int) = some (((m % 128 * P : Nat) : Int)) := by
      unfold shlx
      rw [if_pos (by omega), wrapU64 (by omega) (by omega), shl_nat (by omega) (by rw [hP]; rw [hP] at hlt; omega), hP]
    have q2 : bitOr .u64 (acc : Int) ((m % 128 * P : Nat) : Int) = ((acc + m % 128 * P : Nat) : Int) := by
      rw [← hP]; exact bitOr_add hacc (by rw [hP]; rw [hP] at hlt; omega)
    by_cases hs : m < 128
    · rw [if_pos hs] at hx
      have a1 : bitAnd .u8 (m : Int) 127 = ((m % 128 : Nat) : Int) := fin_and (P := fun n => bitAnd .u8 ((n : Nat) : Int) 127 = ((n % 128 : Nat) : Int)) and127 (by omega)
      have h9 : (((i : Int) == 9) && decide ((m : Int) > 1)) = false := by
        rw [Bool.eq_false_iff]
        simp only [ne_eq, Bool.and_eq_true, beq_iff_eq, decide_eq_true_eq]
        rintro ⟨hi9, hm1⟩
        have : i = 9 := by omega
        subst this
        have : 2 * 2 ^ 63 ≤ m * 2 ^ (7 * 9) := Nat.mul_le_mul (by omega) (by decide)
        omega
      have hz : ((true && ((m : Int) == 0)) && decide ((i : Int) > 0)) = false := by
        rw [Bool.eq_false_iff]
        simp only [ne_eq, Bool.and_eq_true, beq_iff_eq, decide_eq_true_eq]
        rintro ⟨⟨_, hm0⟩, hi0⟩
        have := hpos (by omega); omega
      have hbody : vint_U_l24 b (p : Int) ((acc : Int), (i : Int)) = some (.inr (.inr (((acc + m * 2 ^ (7 * i) : Nat) : Int), ((p + i + 1 : Nat) : Int), 0))) := by
        unfold vint_U_l24
        simp only [w1, w3, w5, d1, cond_false, hx, Option.bind_some, h9, hz, a1, q1, q2, show decide ((m : Int) < 128) = true from decide_eq_true (by omega), cond_true]
        rw [Nat.mod_eq_of_lt hs, hP]
      rw [loopO_done hbody]
      have : (uvF (f + 1) m).length = 1 := by unfold uvF; rw [if_pos hs]; rfl
      rw [this]
    · rw [if_neg hs] at hx
      have a1 : bitAnd .u8 ((m % 128 + 128 : Nat) : Int) 127 = ((m % 128 : Nat) : Int) := by
        have := fin_and (P := fun n => bitAnd .u8 ((n : Nat) : Int) 127 = ((n % 128 : Nat) : Int)) and127 (n := m % 128 + 128) (by omega)
        rw [this]; omega
      have hi9 : i ≠ 9 := by
        rintro rfl
        have : 128 * 2 ^ 63 ≤ m * 2 ^ (7 * 9) := Nat.mul_le_mul (by omega) (by decide)
        omega
      have h9 : (((i : Int) == 9) && decide (((m % 128 + 128 : Nat) : Int) > 1)) = false := by
        rw [show ((i : Int) == 9) = false by rw [beq_eq_false_iff_ne]; omega]; rfl
      have d3 : decide (((m % 128 + 128 : Nat) : Int) < 128) = false := decide_eq_false (by omega)
      have hbody : vint_U_l24 b (p : Int) ((acc : Int), (i : Int)) = some (.inl (((acc + m % 128 * P : Nat) : Int), ((i + 1 : Nat) : Int))) := by
        unfold vint_U_l24
        simp only [w1, w3, w5, w6, d1, cond_false, hx, Option.bind_some, h9, a1, q1, q2, d3, Bool.false_and]
      rw [loopO_step hbody]
      have hf : 0 < f := by
        rcases Nat.eq_zero_or_pos f with rfl | h
        · simp at hm; omega
        · exact h
      have hP2 : 2 ^ (7 * (i + 1)) = 128 * P := by rw [show 7 * (i + 1) = 7 * i + 7 by omega, Nat.pow_add, hP]; omega
      have hdm : m % 128 * P + m / 128 * (128 * P) = m * P := by
        rw [← Nat.mul_assoc, ← Nat.add_mul]; congr 1; omega
      have hlen : (uvF (f + 1) m).length = (uvF f (m / 128)).length + 1 := by
        have : uvF (f + 1) m = ((m % 128 + 128 : Nat) : Int) :: uvF f (m / 128) := by
          conv => lhs; unfold uvF
          exact if_neg hs
        rw [this]; rfl
      have := ih (i + 1) (m / 128) (acc + m % 128 * P) (by rw [Nat.pow_succ] at hm; omega) hf (by omega) (by
        rw [hP2]
        have h7 : m % 128 * P ≤ 127 * P := Nat.mul_le_mul_right _ (by omega)
        rw [hP] at hacc
        omega) (by rw [hP2]; rw [hP] at hlt; omega) (fun _ => by omega) (fun j x hj => by
          have := hat (j + 1) x (by unfold uvF; rw [if_neg hs]; simpa using hj)
          rw [show p + (i + 1) + j = p + i + (j + 1) by omega]; exact this)
      rw [this, hP2, hlen]
      rw [hP]
      have e1 : acc + m % 128 * P + m / 128 * (128 * P) = acc + m * P := by omega
      rw [e1]
      have e2 : p + (i + 1) + (uvF f (m / 128)).length = p + i + ((uvF f (m / 128)).length + 1) := by omega
      rw [e2]
theorem get_mid {α : Type} {pre xs post : List α} {j : Nat} {x : α} (h : xs[j]? = some x) : (pre ++ xs ++ post)[pre.length + j]? = some x := by
  have := (List.getElem?_eq_some_iff.1 h).1
  rw [List.append_assoc, List.getElem?_append_right (by omega), show pre.length + j - pre.length = j by omega, List.getElem?_append_left this]
  exact h
theorem U_back {pre post : List Int} {n : Nat} (hn : n < 18446744073709551616) (hl : (pre ++ uv n ++ post).length ≤ 2147483648) :
    vint_U (pre ++ uv n ++ post) (pre.length : Int) = some ((n : Int), ((pre.length + (uv n).length : Nat) : Int), 0) := by
  unfold vint_U
  have : ((decide ((pre.length : Int) < 0)) || (decide ((pre.length : Int) > ((pre ++ uv n ++ post).length : Int)))) = false := by
    rw [Bool.eq_false_iff]; simp only [ne_eq, Bool.or_eq_true, decide_eq_true_eq, List.length_append]; omega
  rw [this]
  simp only [cond_false]
  have h := u_back (b := pre ++ uv n ++ post) hl (p := pre.length) 10 0 n 0 (by omega) (by omega) (by omega) (by omega) (by simpa using hn) (by omega) (fun j x hj => by rw [Nat.add_zero]; exact get_mid hj)
  rw [show ((0 : Nat) : Int) = 0 from rfl] at h
  rw [h]
  simp [uv]
/-- A text that was written is read. -/
theorem Text_back {pre post : List Int} {s : ByteArray} {most : Nat} (hs : s.size ≤ most) (hm : most < 4611686018427387904) (hv : validD s.data.toList = true) (hl : (pre ++ (uv s.size ++ bytesOf s) ++ post).length ≤ 2147483648) :
    vint_Text (pre ++ (uv s.size ++ bytesOf s) ++ post) (pre.length : Int) (most : Int) = some (s, ((pre.length + (uv s.size ++ bytesOf s).length : Nat) : Int), 0) := by
  have hlen : (pre ++ (uv s.size ++ bytesOf s) ++ post).length = pre.length + (uv s.size).length + s.size + post.length := by simp [bytesOf_length]; omega
  have hsl : (uv s.size ++ bytesOf s).length = (uv s.size).length + s.size := by simp [bytesOf_length]
  unfold vint_Text
  have : (((decide ((pre.length : Int) < 0)) || (decide ((pre.length : Int) > ((pre ++ (uv s.size ++ bytesOf s) ++ post).length : Int)))) || (decide ((most : Int) < 0))) = false := by
    rw [Bool.eq_false_iff]; simp only [ne_eq, Bool.or_eq_true, decide_eq_true_eq]; omega
  rw [this]
  simp only [cond_false]
  have hU := U_back (pre := pre) (n := s.size) (post := bytesOf s ++ post) (by omega) (by rw [← List.append_assoc, List.append_assoc pre]; exact hl)
  have ea : pre ++ uv s.size ++ (bytesOf s ++ post) = pre ++ (uv s.size ++ bytesOf s) ++ post := by simp
  rw [ea] at hU
  rw [hU]
  simp only [Option.bind_some, show ((0 : Int) != 0) = false from rfl, cond_false]
  rw [wrapU64 (x := (most : Int)) (by omega) (by omega), show decide ((s.size : Int) > (most : Int)) = false from decide_eq_false (by omega)]
  rw [wrap64 (x := ((pre ++ (uv s.size ++ bytesOf s) ++ post).length : Int) - _) (by omega) (by omega), wrapU64 (by omega) (by omega), show decide ((s.size : Int) > ((pre ++ (uv s.size ++ bytesOf s) ++ post).length : Int) - ((pre.length + (uv s.size).length : Nat) : Int)) = false from decide_eq_false (by omega)]
  simp only [cond_false]
  rw [wrap64 (x := (s.size : Int)) (by omega) (by omega), wrap64 (x := ((pre.length + (uv s.size).length : Nat) : Int) + (s.size : Int)) (by omega) (by omega)]
  rw [show ((pre.length + (uv s.size).length : Nat) : Int) + (s.size : Int) = ((pre.length + (uv s.size).length + s.size : Nat) : Int) by omega]
  rw [lx_eq (by omega) (by omega)]
  simp only [Option.bind_some]
  have hx : ((pre ++ (uv s.size ++ bytesOf s) ++ post).take (pre.length + (uv s.size).length + s.size)).drop (pre.length + (uv s.size).length) = bytesOf s := by
    have e : pre ++ (uv s.size ++ bytesOf s) ++ post = (pre ++ uv s.size ++ bytesOf s) ++ post := by simp
    rw [e, List.take_left' (by simp [bytesOf_length]; omega), List.drop_left' (by simp)]
  rw [hx, ofBytes_bytesOf, valid_eq (by omega)]
  simp only [Option.bind_some, hv, Bool.not_true, cond_false]
  rw [hsl, Nat.add_assoc]
end Go.Proofs.YtlkmfhccpcncnaaDoor
