/- Plain laws, base: words of bits; numbers in few bytes. -/
import Derived.Test.YtjkkmbjkndageaaDoorPA2
set_option linter.unusedVariables false
set_option linter.unusedSimpArgs false
namespace Go.GB
theorem ofInt_nat (n : Nat) (h : n < 18446744073709551616) : (BitVec.ofInt 64 (n : Int)).toNat = n := by
  rw [BitVec.ofInt_natCast, BitVec.toNat_ofNat, Nat.mod_eq_of_lt h]
theorem bitOr64 {a b : Nat} (ha : a < 18446744073709551616) (hb : b < 18446744073709551616) : bitOr .u64 (a : Int) (b : Int) = ((a ||| b : Nat) : Int) := by
  unfold bitOr
  show IntKind.wrap .u64 ((BitVec.ofInt 64 (a : Int) ||| BitVec.ofInt 64 (b : Int)).toNat : Nat) = _
  rw [BitVec.toNat_or, ofInt_nat a ha, ofInt_nat b hb, wrapU64 (by omega)]
  have := Nat.or_lt_two_pow (n := 64) ha hb
  omega
theorem bitOr_add {a x k : Nat} (ha : a < 2 ^ k) (h : a + x * 2 ^ k < 18446744073709551616) : bitOr .u64 (a : Int) ((x * 2 ^ k : Nat) : Int) = ((a + x * 2 ^ k : Nat) : Int) := by
  rw [bitOr64 (by omega) (by omega)]
  have := Nat.two_pow_add_eq_or_of_lt ha x
  rw [Nat.mul_comm x, Nat.or_comm, ← this, Nat.add_comm]
theorem bitAnd1 {a : Nat} (ha : a < 18446744073709551616) : bitAnd .u64 (a : Int) 1 = ((a % 2 : Nat) : Int) := by
  unfold bitAnd
  show IntKind.wrap .u64 ((BitVec.ofInt 64 (a : Int) &&& BitVec.ofInt 64 ((1 : Nat) : Int)).toNat : Nat) = _
  rw [BitVec.toNat_and, ofInt_nat a ha, ofInt_nat 1 (by omega), Nat.and_one_is_mod, wrapU64 (by omega) (by omega)]
theorem shr_nat (k : IntKind) (a n : Nat) (hn : n ≤ k.bits) : shr k (a : Int) (n : Int) = ((a / 2 ^ n : Nat) : Int) := by
  unfold shr
  rw [Int.toNat_natCast, Nat.min_eq_left hn, Int.fdiv_eq_ediv_of_nonneg _ (by exact Int.pow_nonneg (by omega))]
  norm_cast
theorem shl_nat {x n : Nat} (hn : n ≤ 64) (h : x * 2 ^ n < 18446744073709551616) : shl .u64 (x : Int) (n : Int) = ((x * 2 ^ n : Nat) : Int) := by
  unfold shl
  rw [Int.toNat_natCast, show min n (IntKind.bits .u64) = n from Nat.min_eq_left hn]
  have e : (x : Int) * 2 ^ n = ((x * 2 ^ n : Nat) : Int) := by norm_cast
  rw [e, wrapU64 (by omega) (by omega)]
def uvF : Nat → Nat → List Int
  | 0, _ => []
  | f + 1, n => if n < 128 then [(n : Int)] else ((n % 128 + 128 : Nat) : Int) :: uvF f (n / 128)
/-- A number in few bytes. -/
def uv (n : Nat) : List Int := uvF 10 n
theorem uvF_len : ∀ f n : Nat, (uvF f n).length ≤ f
  | 0, _ => by simp [uvF]
  | f + 1, n => by
    unfold uvF
    split
    · simp
    · have := uvF_len f (n / 128); simp; omega
theorem uv_len (n : Nat) : (uv n).length ≤ 10 := uvF_len 10 n
theorem uv_byte : ∀ f n : Nat, ∀ x ∈ uvF f n, 0 ≤ x ∧ x < 256
  | 0, _, x, h => by simp [uvF] at h
  | f + 1, n, x, h => by
    unfold uvF at h
    split at h
    · simp at h; omega
    · rcases List.mem_cons.1 h with rfl | h
      · omega
      · exact uv_byte f _ x h
/-- A loop that lays a number's bytes. -/
theorem putu_loop {body : Int × List Int → Option ((Int × List Int) ⊕ (Int × List Int))} (h : ∀ (n : Nat) (acc : List Int), n < 18446744073709551616 → body ((n : Int), acc) = if n < 128 then some (.inr ((n : Int), acc)) else Option.bind (app acc [((n % 128 + 128 : Nat) : Int)]) fun z => some (.inl (((n / 128 : Nat) : Int), z))) :
    ∀ (f n : Nat) (acc : List Int), n < 128 ^ f → n < 18446744073709551616 → acc.length + f ≤ 2147483648 → 0 < f → ∃ (m : Nat) (acc' : List Int), m < 128 ∧ loopO body ((n : Int), acc) = some ((m : Int), acc') ∧ acc' ++ [(m : Int)] = acc ++ uvF f n ∧ acc'.length + 1 ≤ acc.length + f := by
  intro f
  induction f with
  | zero => intro n acc _ _ _ h0; omega
  | succ f ih =>
    intro n acc hn hn2 hl _
    have hb := h n acc hn2
    by_cases hlt : n < 128
    · rw [if_pos hlt] at hb
      exact ⟨n, acc, hlt, loopO_done hb, by unfold uvF; rw [if_pos hlt], by omega⟩
    · rw [if_neg hlt] at hb
      have ha : app acc [((n % 128 + 128 : Nat) : Int)] = some (acc ++ [((n % 128 + 128 : Nat) : Int)]) := by unfold app maxLen'; rw [if_pos (by simp; omega)]
      rw [ha, Option.bind_some] at hb
      have hf : 0 < f := by
        rcases Nat.eq_zero_or_pos f with rfl | h0
        · simp at hn; omega
        · exact h0
      obtain ⟨m, acc', h1, h2, h3, h4⟩ := ih (n / 128) (acc ++ [((n % 128 + 128 : Nat) : Int)]) (by rw [Nat.pow_succ] at hn; omega) (by omega) (by simp; omega) hf
      refine ⟨m, acc', h1, by rw [loopO_step hb]; exact h2, ?_, by simp at h4; omega⟩
      rw [h3]
      conv => rhs; unfold uvF
      rw [if_neg hlt]; simp
theorem app_eq {α : Type} {xs ys : List α} (h : xs.length + ys.length ≤ 2147483648) : app xs ys = some (xs ++ ys) := by unfold app maxLen'; rw [if_pos (by simpa using h)]
theorem sb_eq {s : ByteArray} (h : s.size ≤ 2147483648) : sb s = some (bytesOf s) := by unfold sb maxLen'; rw [if_pos h]
def Bytes (l : List Int) : Prop := ∀ x ∈ l, 0 ≤ x ∧ x < 256
theorem bytesOf_bytes (s : ByteArray) : Bytes (bytesOf s) := fun x hx => by
  unfold bytesOf at hx
  obtain ⟨b, _, rfl⟩ := List.mem_map.1 hx
  have := b.toNat_lt
  omega
theorem ofBytes_toList (l : List Int) : (ofBytes l).data.toList = l.map (fun n => UInt8.ofNat n.toNat) := by
  unfold ofBytes
  have key : ∀ (l : List Int) (r : ByteArray), (l.foldl (fun r n => r.push (UInt8.ofNat n.toNat)) r).data.toList = r.data.toList ++ l.map (fun n => UInt8.ofNat n.toNat) := by
    intro l
    induction l with
    | nil => intro r; simp
    | cons x l ih => intro r; rw [List.foldl_cons, ih]; simp [ByteArray.push]
  rw [key]; simp
theorem ofBytes_size (l : List Int) : (ofBytes l).size = l.length := by rw [← size_list, ofBytes_toList, List.length_map]
theorem ofBytes_bytesOf (s : ByteArray) : ofBytes (bytesOf s) = s := by
  refine ba_eq ?_
  rw [ofBytes_toList]
  unfold bytesOf
  rw [List.map_map]
  conv => rhs; rw [← List.map_id s.data.toList]
  refine List.map_congr_left fun b _ => ?_
  show UInt8.ofNat ((b.toNat : Nat) : Int).toNat = b
  rw [Int.toNat_natCast, UInt8.ofNat_toNat]
theorem bytesOf_ofBytes {l : List Int} (h : Bytes l) : bytesOf (ofBytes l) = l := by
  unfold bytesOf
  rw [ofBytes_toList, List.map_map]
  conv => rhs; rw [← List.map_id l]
  refine List.map_congr_left fun x hx => ?_
  have := h x hx
  show (((UInt8.ofNat x.toNat).toNat : Nat) : Int) = x
  rw [UInt8.toNat_ofNat']
  omega
end Go.GB
