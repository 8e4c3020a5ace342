/- Plain laws: numbers and texts in bytes: the program's are the document's. -/
import Derived.Test.YtlkmfhccpcncnaaDoorPB1
import Derived.Test.YtlkmfhccpcncnaaDoorPA3
set_option linter.unusedVariables false
set_option maxRecDepth 100000
namespace Go.Proofs.YtlkmfhccpcncnaaDoor
open Go.GB Go.Lib
theorem joined_eq {a b : List Int} (h : a.length + b.length ≤ 2147483648) : vint_joined a b = some (a ++ b) := by
  unfold vint_joined
  have e : mkrow (0 : Int) 0 (IntKind.wrap .i64 ((a.length : Int) + (b.length : Int))) = some [] := by
    unfold mkrow
    rw [wrap64 (by omega) (by omega), if_pos ⟨by omega, by omega, by omega⟩]; rfl
  rw [e]
  simp only [Option.bind_some]
  rw [app_eq (by simp; omega)]
  simp only [Option.bind_some, List.nil_append]
  rw [app_eq h]; rfl
theorem refJoined_eq {a b : List Int} (h : a.length + b.length ≤ 2147483648) : tocsinref01_joined a b = some (a ++ b) := by
  unfold tocsinref01_joined
  rw [app_eq (by simp; omega)]
  simp only [Option.bind_some, List.nil_append]
  rw [app_eq h]; rfl
theorem PutU_eq {a : List Int} {n : Nat} (hn : n < 18446744073709551616) (h : a.length + 10 ≤ 2147483648) : vint_PutU a (n : Int) = some (a ++ uv n) := by
  unfold vint_PutU
  obtain ⟨m, acc, h1, h2, h3, h4⟩ := putu_loop (body := vint_PutU_l28) (fun n acc hn => by
    unfold vint_PutU_l28
    by_cases hlt : n < 128
    · rw [if_pos hlt, show decide ((((n : Nat) : Int), acc).1 ≥ 128) = false from decide_eq_false (by show ¬ ((n : Int) ≥ 128); omega)]; rfl
    · rw [if_neg hlt, show decide ((((n : Nat) : Int), acc).1 ≥ 128) = true from decide_eq_true (by show (n : Int) ≥ 128; omega)]
      have e1 : bitOr .u8 (IntKind.wrap .u8 (n : Int)) 128 = ((n % 128 + 128 : Nat) : Int) := by
        have := fin_and (P := fun c => bitOr .u8 ((c : Nat) : Int) 128 = ((c % 128 + 128 : Nat) : Int)) or128 (n := n % 256) (by omega)
        rw [wrapU8_eq, show (n : Int) % 256 = ((n % 256 : Nat) : Int) by omega, this]; omega
      have e2 : shr .u64 (n : Int) 7 = ((n / 128 : Nat) : Int) := shr_nat .u64 n 7 (by decide)
      simp only [cond_true, e1, e2]) 10 n [] (by omega) hn (by simp) (by omega)
  rw [show ((n : Int), ([] : List Int)) = ((n : Int), []) from rfl, h2]
  simp only [Option.bind_some]
  rw [wrapU8 (by omega) (by omega), app_eq (by simp at h4 ⊢; omega), h3]
  simp only [Option.bind_some, List.nil_append]
  rw [joined_eq (by have := uv_len n; unfold uv at this; omega)]
  rfl
theorem refPutU_eq {a : List Int} {n : Nat} (hn : n < 18446744073709551616) (h : a.length + 10 ≤ 2147483648) : tocsinref01_PutU a (n : Int) = some (a ++ uv n) := by
  unfold tocsinref01_PutU
  obtain ⟨m, acc, h1, h2, h3, h4⟩ := putu_loop (body := tocsinref01_PutU_l28) (fun n acc hn => by
    unfold tocsinref01_PutU_l28
    by_cases hlt : n < 128
    · rw [if_pos hlt, show decide ((((n : Nat) : Int), acc).1 ≥ 128) = false from decide_eq_false (by show ¬ ((n : Int) ≥ 128); omega)]; rfl
    · rw [if_neg hlt, show decide ((((n : Nat) : Int), acc).1 ≥ 128) = true from decide_eq_true (by show (n : Int) ≥ 128; omega)]
      have e0 : Int.tmod (n : Int) 128 = ((n % 128 : Nat) : Int) := by rw [Int.tmod_eq_emod_of_nonneg (by omega)]; omega
      have e1 : IntKind.wrap .u8 (IntKind.wrap .u8 (Int.tmod (n : Int) 128) + 128) = ((n % 128 + 128 : Nat) : Int) := by
        rw [e0, wrapU8 (x := ((n % 128 : Nat) : Int)) (by omega) (by omega), wrapU8 (by omega) (by omega)]; omega
      have e2 : IntKind.wrap .u64 (Int.tdiv (n : Int) 128) = ((n / 128 : Nat) : Int) := by
        rw [Int.tdiv_eq_ediv_of_nonneg (by omega), show (n : Int) / 128 = ((n / 128 : Nat) : Int) by omega, wrapU64 (by omega) (by omega)]
      simp only [cond_true, e1, e2]) 10 n [] (by omega) hn (by simp) (by omega)
  rw [show ((n : Int), ([] : List Int)) = ((n : Int), []) from rfl, h2]
  simp only [Option.bind_some]
  rw [wrapU8 (by omega) (by omega), app_eq (by simp at h4 ⊢; omega), h3]
  simp only [Option.bind_some, List.nil_append]
  rw [refJoined_eq (by have := uv_len n; unfold uv at this; omega)]
  rfl
theorem PutText_eq {a : List Int} {s : ByteArray} (h : a.length + 10 + s.size ≤ 2147483648) : vint_PutText a s = some (a ++ uv s.size ++ bytesOf s) := by
  unfold vint_PutText
  rw [wrapU64 (by omega) (by omega), PutU_eq (by omega) (by omega)]
  simp only [Option.bind_some]
  rw [sb_eq (by omega)]
  simp only [Option.bind_some]
  rw [joined_eq (by have := uv_len s.size; simp [bytesOf_length]; omega)]
  rfl
theorem refPutText_eq {a : List Int} {s : ByteArray} (h : a.length + 10 + s.size ≤ 2147483648) : tocsinref01_PutText a s = some (a ++ uv s.size ++ bytesOf s) := by
  unfold tocsinref01_PutText
  rw [wrapU64 (by omega) (by omega), refPutU_eq (by omega) (by omega)]
  simp only [Option.bind_some]
  rw [sb_eq (by omega)]
  simp only [Option.bind_some]
  rw [refJoined_eq (by have := uv_len s.size; simp [bytesOf_length]; omega)]
  rfl
theorem PutI_eq {a : List Int} {n : Nat} (hn : n < 4611686018427387904) (h : a.length + 10 ≤ 2147483648) : vint_PutI a (n : Int) = some (a ++ uv (2 * n)) := by
  unfold vint_PutI
  have e1 : shl .u64 (IntKind.wrap .u64 (n : Int)) 1 = ((2 * n : Nat) : Int) := by
    rw [wrapU64 (by omega) (by omega), show (1 : Int) = ((1 : Nat) : Int) from rfl, shl_nat (by omega) (by omega)]; omega
  have e2 : IntKind.wrap .u64 (shr .i64 (n : Int) 63) = 0 := by
    rw [show (63 : Int) = ((63 : Nat) : Int) from rfl, shr_nat .i64 n 63 (by decide), show n / 2 ^ 63 = 0 from Nat.div_eq_of_lt (by omega)]; rfl
  have e3 : bitXor .u64 ((2 * n : Nat) : Int) 0 = ((2 * n : Nat) : Int) := by
    unfold bitXor
    show IntKind.wrap .u64 ((BitVec.ofInt 64 ((2 * n : Nat) : Int) ^^^ BitVec.ofInt 64 ((0 : Nat) : Int)).toNat : Nat) = _
    rw [BitVec.toNat_xor, ofInt_nat _ (by omega), ofInt_nat 0 (by omega), Nat.xor_zero, wrapU64 (by omega) (by omega)]
  rw [e1, e2, e3, PutU_eq (by omega) h]
  rfl
theorem refPutI_eq {a : List Int} {n : Nat} (hn : n < 4611686018427387904) (h : a.length + 10 ≤ 2147483648) : tocsinref01_PutI a (n : Int) = some (a ++ uv (2 * n)) := by
  unfold tocsinref01_PutI tocsinref01_turn
  rw [show decide ((n : Int) ≥ 0) = true from decide_eq_true (by omega)]
  simp only [cond_true]
  rw [wrapU64 (x := (n : Int)) (by omega) (by omega), wrapU64 (by omega) (by omega), show (2 * (n : Int)) = ((2 * n : Nat) : Int) by omega, refPutU_eq (by omega) h]
  rfl
/-- What a read of a number leaves. -/
def UOk (len at_ : Nat) (v : Int × Int × Int) : Prop := (v.2.2 = 0 ∧ (at_ : Int) < v.2.1 ∧ v.2.1 ≤ (len : Int) ∧ 0 ≤ v.1 ∧ v.1 < 18446744073709551616) ∨ (v.2.2 ≠ 0 ∧ v.1 = 0 ∧ v.2.1 = 0)
theorem bitOr64_range (a b : Int) : 0 ≤ bitOr .u64 a b ∧ bitOr .u64 a b < 18446744073709551616 := by
  unfold bitOr
  rw [wrapU64_eq]
  omega
theorem u_body {b : List Int} (hb : Bytes b) (hl : b.length ≤ 2147483648) {p i : Nat} (hp : p ≤ b.length) (hi : i ≤ 9) (acc : Int) :
    vint_U_l24 b (p : Int) (acc, (i : Int)) = tocsinref01_U_l24 b (p : Int) (acc, (i : Int)) ∧
    ((∃ acc', vint_U_l24 b (p : Int) (acc, (i : Int)) = some (.inl (acc', ((i + 1 : Nat) : Int))) ∧ i < 9) ∨ ∃ v, vint_U_l24 b (p : Int) (acc, (i : Int)) = some (.inr (.inr v)) ∧ UOk b.length p v) := by
  unfold vint_U_l24 tocsinref01_U_l24
  simp only
  have w1 : IntKind.wrap .i64 ((p : Int) + (i : Int)) = ((p + i : Nat) : Int) := by rw [wrap64 (by omega) (by omega)]; omega
  have w2 : IntKind.wrap .i64 ((b.length : Int) - (p : Int)) = (b.length : Int) - (p : Int) := wrap64 (by omega) (by omega)
  have w3 : IntKind.wrap .i64 (7 * (i : Int)) = 7 * (i : Int) := wrap64 (by omega) (by omega)
  have w4 : IntKind.wrap .u64 (7 * (i : Int)) = 7 * (i : Int) := wrapU64 (by omega) (by omega)
  have w5 : IntKind.wrap .i64 (((p + i : Nat) : Int) + 1) = ((p + i + 1 : Nat) : Int) := by rw [wrap64 (by omega) (by omega)]; omega
  have w6 : IntKind.wrap .i64 ((i : Int) + 1) = ((i + 1 : Nat) : Int) := wrap_up (by omega)
  rw [show decide ((i : Int) < 10) = true from decide_eq_true (by omega), w1, w2, w3, w4, w5, w6]
  simp only [cond_true]
  by_cases hlt : p + i < b.length
  · have d1 : decide (((p + i : Nat) : Int) ≥ (b.length : Int)) = false := decide_eq_false (by omega)
    have d2 : decide ((i : Int) ≥ (b.length : Int) - (p : Int)) = false := decide_eq_false (by omega)
    have hx : ix b ((p + i : Nat) : Int) = some b[p + i] := by rw [ix_nat, List.getElem?_eq_getElem hlt]
    obtain ⟨h0, h1⟩ := hb b[p + i] (List.getElem_mem hlt)
    obtain ⟨c, hc⟩ : ∃ c : Nat, b[p + i] = (c : Int) := ⟨b[p + i].toNat, by omega⟩
    simp only [d1, d2, cond_false, hx, Option.bind_some]
    rw [hc] at h0 h1 ⊢
    have hc' : c < 256 := by omega
    have e1 : bitAnd .u8 (c : Int) 127 = Int.tmod (c : Int) 128 := by
      rw [fin_and (P := fun n => bitAnd .u8 ((n : Nat) : Int) 127 = ((n % 128 : Nat) : Int)) and127 hc', Int.tmod_eq_emod_of_nonneg (by omega)]; omega
    have e2 : ∀ x, shlx .u64 x (7 * (i : Int)) = some (shl .u64 x (7 * (i : Int))) := fun x => by unfold shlx; rw [if_pos (by omega)]
    simp only [e1, e2, Option.bind_some]
    cases h9 : (((i : Int) == 9) && decide ((c : Int) > 1)) with
    | true => exact ⟨rfl, .inr ⟨_, rfl, .inr ⟨by decide, rfl, rfl⟩⟩⟩
    | false =>
      simp only [cond_false]
      have hr := bitOr64_range acc (shl .u64 (IntKind.wrap .u64 (Int.tmod (c : Int) 128)) (7 * (i : Int)))
      by_cases hs : c < 128
      · have d3 : decide ((c : Int) < 128) = true := decide_eq_true (by omega)
        simp only [d3, Bool.true_and, cond_true]
        cases hz : (((c : Int) == 0) && decide ((i : Int) > 0)) with
        | true => exact ⟨trivial, .inr ⟨_, rfl, .inr ⟨by decide, rfl, rfl⟩⟩⟩
        | false => exact ⟨trivial, .inr ⟨_, rfl, .inl ⟨rfl, by show (p : Int) < ((p + i + 1 : Nat) : Int); omega, by show ((p + i + 1 : Nat) : Int) ≤ (b.length : Int); omega, hr.1, hr.2⟩⟩⟩
      · have d3 : decide ((c : Int) < 128) = false := decide_eq_false (by omega)
        simp only [d3, Bool.false_and, cond_false]
        refine ⟨trivial, .inl ⟨_, rfl, ?_⟩⟩
        rw [Bool.and_eq_false_iff] at h9
        rcases h9 with h9 | h9
        · have : (i : Int) ≠ 9 := by simpa using h9
          omega
        · have := of_decide_eq_false h9; omega
  · have d1 : decide (((p + i : Nat) : Int) ≥ (b.length : Int)) = true := decide_eq_true (by omega)
    have d2 : decide ((i : Int) ≥ (b.length : Int) - (p : Int)) = true := decide_eq_true (by omega)
    simp only [d1, d2, cond_true]
    exact ⟨trivial, .inr ⟨_, rfl, .inr ⟨by decide, rfl, rfl⟩⟩⟩
theorem u_loop {b : List Int} (hb : Bytes b) (hl : b.length ≤ 2147483648) {p : Nat} (hp : p ≤ b.length) : ∀ (d i : Nat) (acc : Int), 9 - i = d → i ≤ 9 →
    ∃ v, loopO (vint_U_l24 b (p : Int)) (acc, (i : Int)) = some (.inr v) ∧ loopO (tocsinref01_U_l24 b (p : Int)) (acc, (i : Int)) = some (.inr v) ∧ UOk b.length p v := by
  intro d
  induction d with
  | zero =>
    intro i acc hd hi
    obtain ⟨h1, h2⟩ := u_body hb hl hp hi acc
    rcases h2 with ⟨acc', _, h3⟩ | ⟨v, h3, h4⟩
    · omega
    · exact ⟨v, loopO_done h3, loopO_done (by rw [← h1]; exact h3), h4⟩
  | succ d ih =>
    intro i acc hd hi
    obtain ⟨h1, h2⟩ := u_body hb hl hp hi acc
    rcases h2 with ⟨acc', h3, h4⟩ | ⟨v, h3, h4⟩
    · obtain ⟨v, h5, h6, h7⟩ := ih (i + 1) acc' (by omega) (by omega)
      exact ⟨v, by rw [loopO_step h3]; exact h5, by rw [loopO_step (by rw [← h1]; exact h3)]; exact h6, h7⟩
    · exact ⟨v, loopO_done h3, loopO_done (by rw [← h1]; exact h3), h4⟩
theorem U_both {b : List Int} (hb : Bytes b) (hl : b.length ≤ 2147483648) (at_ : Int) : ∃ v, vint_U b at_ = some v ∧ tocsinref01_U b at_ = some v ∧ UOk b.length at_.toNat v := by
  unfold vint_U tocsinref01_U
  by_cases h : at_ < 0 ∨ at_ > (b.length : Int)
  · have : ((decide (at_ < 0)) || (decide (at_ > (b.length : Int)))) = true := by simpa using h
    rw [this]
    exact ⟨_, rfl, rfl, .inr ⟨by decide, rfl, rfl⟩⟩
  · have : ((decide (at_ < 0)) || (decide (at_ > (b.length : Int)))) = false := by rw [Bool.eq_false_iff]; simpa using h
    rw [this]
    simp only [cond_false]
    obtain ⟨p, rfl⟩ : ∃ p : Nat, at_ = (p : Int) := ⟨at_.toNat, by omega⟩
    obtain ⟨v, h1, h2, h3⟩ := u_loop hb hl (p := p) (by omega) 9 0 0 rfl (by omega)
    rw [show ((0 : Nat) : Int) = 0 from rfl] at h1 h2
    rw [h1, h2]
    exact ⟨v, rfl, rfl, by rw [Int.toNat_natCast]; exact h3⟩
/-- What a read of a text leaves. -/
def TOk (len at_ : Nat) (v : ByteArray × Int × Int) : Prop := (v.2.2 = 0 ∧ (at_ : Int) < v.2.1 ∧ v.2.1 ≤ (len : Int) ∧ (v.1.size : Int) + at_ < v.2.1) ∨ (v.2.2 ≠ 0 ∧ v.1 = ⟨#[]⟩ ∧ v.2.1 = 0)
theorem lx_eq {α : Type} {xs : List α} {l r : Nat} (h1 : l ≤ r) (h2 : r ≤ xs.length) : lx xs (l : Int) (r : Int) = some ((xs.take r).drop l) := by
  unfold lx
  rw [if_pos ⟨by omega, by omega, by omega⟩, Int.toNat_natCast, Int.toNat_natCast]
theorem Text_both {b : List Int} (hb : Bytes b) (hl : b.length ≤ 2147483648) (at_ most : Int) (hm : most < 9223372036854775808) : ∃ v, vint_Text b at_ most = some v ∧ tocsinref01_Text b at_ most = some v ∧ TOk b.length at_.toNat v := by
  unfold vint_Text tocsinref01_Text
  by_cases h : (at_ < 0 ∨ at_ > (b.length : Int)) ∨ most < 0
  · have : (((decide (at_ < 0)) || (decide (at_ > (b.length : Int)))) || (decide (most < 0))) = true := by simpa using h
    rw [this]
    exact ⟨_, rfl, rfl, .inr ⟨by decide, rfl, rfl⟩⟩
  · have : (((decide (at_ < 0)) || (decide (at_ > (b.length : Int)))) || (decide (most < 0))) = false := by rw [Bool.eq_false_iff]; simpa using h
    rw [this]
    simp only [cond_false]
    obtain ⟨⟨n, e, er⟩, h1, h2, h3⟩ := U_both hb hl at_
    rw [h1, h2]
    simp only [Option.bind_some]
    rcases h3 with ⟨h4, h5, h6, h7, h8⟩ | ⟨h4, h5, h6⟩
    · simp only at h4 h5 h6 h7 h8
      subst h4
      simp only [show ((0 : Int) != 0) = false from rfl, cond_false]
      rw [wrapU64 (x := most) (by omega) (by omega), wrap64 (x := (b.length : Int) - e) (by omega) (by omega), wrapU64 (by omega) (by omega)]
      by_cases c1 : n > most
      · rw [decide_eq_true c1]; exact ⟨_, rfl, rfl, .inr ⟨by decide, rfl, rfl⟩⟩
      · rw [decide_eq_false c1]
        simp only [cond_false]
        by_cases c2 : n > (b.length : Int) - e
        · rw [decide_eq_true c2]; exact ⟨_, rfl, rfl, .inr ⟨by decide, rfl, rfl⟩⟩
        · rw [decide_eq_false c2]
          simp only [cond_false]
          rw [wrap64 (x := n) (by omega) (by omega), wrap64 (x := e + n) (by omega) (by omega)]
          obtain ⟨e', rfl⟩ : ∃ e' : Nat, e = (e' : Int) := ⟨e.toNat, by omega⟩
          obtain ⟨n', rfl⟩ : ∃ n' : Nat, n = (n' : Int) := ⟨n.toNat, by omega⟩
          have hx := lx_eq (xs := b) (l := e') (r := e' + n') (by omega) (by omega)
          rw [show ((e' : Int) + (n' : Int)) = ((e' + n' : Nat) : Int) by omega, hx]
          simp only [Option.bind_some]
          have hsz : (ofBytes ((b.take (e' + n')).drop e')).size = n' := by rw [ofBytes_size, List.length_drop, List.length_take]; omega
          rw [valid_eq (by omega), refUtf8_eq (by omega)]
          simp only [Option.bind_some]
          cases validD (ofBytes ((b.take (e' + n')).drop e')).data.toList with
          | false => exact ⟨_, rfl, rfl, .inr ⟨by decide, rfl, rfl⟩⟩
          | true => exact ⟨_, rfl, rfl, .inl ⟨rfl, by show ((at_.toNat : Nat) : Int) < ((e' + n' : Nat) : Int); omega, by show ((e' + n' : Nat) : Int) ≤ (b.length : Int); omega, by show ((ofBytes ((b.take (e' + n')).drop e')).size : Int) + at_.toNat < ((e' + n' : Nat) : Int); rw [hsz]; omega⟩⟩
    · simp only at h4 h5 h6
      rw [show (er != 0) = true by simpa using h4]
      exact ⟨_, rfl, rfl, .inr ⟨h4, rfl, rfl⟩⟩
end Go.Proofs.YtlkmfhccpcncnaaDoor
