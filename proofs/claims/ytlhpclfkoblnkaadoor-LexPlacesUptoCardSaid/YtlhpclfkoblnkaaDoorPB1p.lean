/- Plain laws: the document's Utf8 is the library's. -/
import Derived.Test.YtlhpclfkoblnkaaDoorL52
import Derived.Test.YtlhpclfkoblnkaaDoorPA1
import Derived.Lib.ValidLaws
set_option linter.unusedVariables false
set_option maxRecDepth 100000
namespace Go.Proofs.YtlhpclfkoblnkaaDoor
open Go.GB Go.Lib
/-- The byte at a place, 0 behind the end. -/
def bat (s : ByteArray) (i : Nat) : Nat := (s.data.toList.getD i 0).toNat
theorem bat_lt (s : ByteArray) (i : Nat) : bat s i < 256 := UInt8.toNat_lt _
theorem bx_bat {s : ByteArray} {i : Nat} (h : i < s.size) : bx s (i : Int) = some ((bat s i : Nat) : Int) := bx_at h
theorem fin_and {P : Nat → Prop} (h : ∀ c : Fin 256, P c.val) {n : Nat} (hn : n < 256) : P n := h ⟨n, hn⟩
/-- What a lead byte says: how many follow, the least, what it bears. -/
def leadN (c : Nat) : Option (Nat × Nat × Nat) := if 194 ≤ c ∧ c < 224 then some (1, 128, c % 32) else if 224 ≤ c ∧ c < 240 then some (2, 2048, c % 16) else if 240 ≤ c ∧ c < 245 then some (3, 65536, c % 8) else none
def contN (s : ByteArray) (i n least r0 : Nat) : Option Nat :=
  if (i + 1 < s.size ∧ bat s (i + 1) / 64 = 2) ∧ (2 ≤ n → i + 2 < s.size ∧ bat s (i + 2) / 64 = 2) ∧ (3 ≤ n → i + 3 < s.size ∧ bat s (i + 3) / 64 = 2) then
    (let r := if n = 1 then r0 * 64 + bat s (i + 1) % 64 else if n = 2 then (r0 * 64 + bat s (i + 1) % 64) * 64 + bat s (i + 2) % 64 else ((r0 * 64 + bat s (i + 1) % 64) * 64 + bat s (i + 2) % 64) * 64 + bat s (i + 3) % 64
     if r < least ∨ r > 1114111 ∨ (55296 ≤ r ∧ r < 57344) then none else some (i + n + 1))
  else none
/-- One round of the document's loop: the place behind the rune, or none. -/
def stepN (s : ByteArray) (i : Nat) : Option Nat :=
  if bat s i < 128 then some (i + 1) else match leadN (bat s i) with
    | none => none
    | some (n, least, r0) => contN s i n least r0
theorem getD_drop (l : List UInt8) (i k : Nat) : (l.drop i).getD k 0 = l.getD (i + k) 0 := by simp [List.getD_eq_getElem?_getD, List.getElem?_drop]
theorem dec2 {n c b1 b2 b3 : Nat} (hc : 194 ≤ c ∧ c < 224) : decodeN n c b1 b2 b3 = if 1 < n ∧ b1 / 64 = 2 then (c % 32 * 64 + b1 % 64, 2) else (65533, 1) := by
  unfold decodeN
  rw [if_neg (by omega)]
  by_cases h : 1 < n ∧ b1 / 64 = 2
  · rw [if_pos ⟨by omega, h⟩, if_pos (by omega), if_pos h]
  · rw [if_neg (fun g => h g.2), if_neg (fun g => h g.2.1), if_neg (fun g => h g.2.1), if_neg h]
theorem dec3 {n c b1 b2 b3 : Nat} (hc : 224 ≤ c ∧ c < 240) : decodeN n c b1 b2 b3 = if (1 < n ∧ b1 / 64 = 2) ∧ (2 < n ∧ b2 / 64 = 2) then
    (if (c % 16 * 64 + b1 % 64) * 64 + b2 % 64 < 2048 ∨ (55296 ≤ (c % 16 * 64 + b1 % 64) * 64 + b2 % 64 ∧ (c % 16 * 64 + b1 % 64) * 64 + b2 % 64 < 57344) then (65533, 1) else ((c % 16 * 64 + b1 % 64) * 64 + b2 % 64, 3)) else (65533, 1) := by
  unfold decodeN
  rw [if_neg (by omega), if_neg (by omega)]
  by_cases h : (1 < n ∧ b1 / 64 = 2) ∧ (2 < n ∧ b2 / 64 = 2)
  · rw [if_pos ⟨by omega, h⟩, if_pos h]
    have e : c % 16 * 4096 + b1 % 64 * 64 + b2 % 64 = (c % 16 * 64 + b1 % 64) * 64 + b2 % 64 := by omega
    rw [e]
    by_cases h2 : (c % 16 * 64 + b1 % 64) * 64 + b2 % 64 < 2048 ∨ (55296 ≤ (c % 16 * 64 + b1 % 64) * 64 + b2 % 64 ∧ (c % 16 * 64 + b1 % 64) * 64 + b2 % 64 < 57344)
    · rw [if_pos h2, if_neg (by omega)]
    · rw [if_neg h2, if_pos (by omega)]
  · rw [if_neg (fun g => h g.2), if_neg (fun g => h ⟨g.2.1, g.2.2.1⟩), if_neg h]
theorem dec4 {n c b1 b2 b3 : Nat} (hc : 240 ≤ c ∧ c < 245) : decodeN n c b1 b2 b3 = if (1 < n ∧ b1 / 64 = 2) ∧ (2 < n ∧ b2 / 64 = 2) ∧ (3 < n ∧ b3 / 64 = 2) then
    (if ((c % 8 * 64 + b1 % 64) * 64 + b2 % 64) * 64 + b3 % 64 < 65536 ∨ 1114111 < ((c % 8 * 64 + b1 % 64) * 64 + b2 % 64) * 64 + b3 % 64 then (65533, 1) else (((c % 8 * 64 + b1 % 64) * 64 + b2 % 64) * 64 + b3 % 64, 4)) else (65533, 1) := by
  unfold decodeN
  rw [if_neg (by omega), if_neg (by omega), if_neg (by omega)]
  by_cases h : (1 < n ∧ b1 / 64 = 2) ∧ (2 < n ∧ b2 / 64 = 2) ∧ (3 < n ∧ b3 / 64 = 2)
  · rw [if_pos ⟨by omega, h⟩, if_pos h]
    have e : c % 8 * 262144 + b1 % 64 * 4096 + b2 % 64 * 64 + b3 % 64 = ((c % 8 * 64 + b1 % 64) * 64 + b2 % 64) * 64 + b3 % 64 := by omega
    rw [e]
    by_cases h2 : ((c % 8 * 64 + b1 % 64) * 64 + b2 % 64) * 64 + b3 % 64 < 65536 ∨ 1114111 < ((c % 8 * 64 + b1 % 64) * 64 + b2 % 64) * 64 + b3 % 64
    · rw [if_pos h2, if_neg (by omega)]
    · rw [if_neg h2, if_pos (by omega)]
  · rw [if_neg (fun g => h g.2), if_neg h]
set_option maxHeartbeats 1000000 in
/-- The document's round and the library's are one. -/
theorem stepN_valid {s : ByteArray} {i : Nat} (hi : i < s.size) : validD (s.data.toList.drop i) = match stepN s i with | some j => validD (s.data.toList.drop j) | none => false := by
  have hl : s.data.toList.length = s.size := size_list s
  have hne : s.data.toList.drop i ≠ [] := by intro h; have := congrArg List.length h; simp at this; omega
  have hlen : (s.data.toList.drop i).length = s.size - i := by rw [List.length_drop, hl]
  rw [validD_step _ hne, decodeL_N, hlen]
  simp only [getD_drop, Nat.add_zero]
  have b0 := bat_lt s i
  change (if (decodeN (s.size - i) (bat s i) (bat s (i + 1)) (bat s (i + 2)) (bat s (i + 3))).1 = 65533 ∧ (decodeN (s.size - i) (bat s i) (bat s (i + 1)) (bat s (i + 2)) (bat s (i + 3))).2 = 1 then false else validD ((s.data.toList.drop i).drop (decodeN (s.size - i) (bat s i) (bat s (i + 1)) (bat s (i + 2)) (bat s (i + 3))).2)) = _
  rw [List.drop_drop]
  unfold stepN leadN
  by_cases h0 : bat s i < 128
  · rw [if_pos h0, show decodeN (s.size - i) (bat s i) (bat s (i + 1)) (bat s (i + 2)) (bat s (i + 3)) = (bat s i, 1) from by unfold decodeN; rw [if_pos h0]]
    rw [if_neg (by simp; omega)]
  · rw [if_neg h0]
    by_cases c1 : 194 ≤ bat s i ∧ bat s i < 224
    · rw [if_pos c1, dec2 c1]
      show _ = match contN s i 1 128 (bat s i % 32) with | some j => validD (s.data.toList.drop j) | none => false
      by_cases k1 : i + 1 < s.size ∧ bat s (i + 1) / 64 = 2
      · have e : contN s i 1 128 (bat s i % 32) = some (i + 1 + 1) := by
          unfold contN
          rw [if_pos ⟨k1, by omega, by omega⟩]
          simp only [if_true]
          rw [if_neg (by omega)]
        rw [e, if_pos (show 1 < s.size - i ∧ bat s (i + 1) / 64 = 2 from ⟨by omega, k1.2⟩), if_neg (by simp)]; rfl
      · have e : contN s i 1 128 (bat s i % 32) = none := by
          unfold contN
          rw [if_neg (fun g => k1 g.1)]
        rw [e, if_neg (show ¬ (1 < s.size - i ∧ bat s (i + 1) / 64 = 2) from fun g => k1 ⟨by omega, g.2⟩), if_pos ⟨rfl, rfl⟩]
    · rw [if_neg c1]
      by_cases c2 : 224 ≤ bat s i ∧ bat s i < 240
      · rw [if_pos c2, dec3 c2]
        show _ = match contN s i 2 2048 (bat s i % 16) with | some j => validD (s.data.toList.drop j) | none => false
        by_cases k1 : (i + 1 < s.size ∧ bat s (i + 1) / 64 = 2) ∧ (i + 2 < s.size ∧ bat s (i + 2) / 64 = 2)
        · rw [if_pos (show (1 < s.size - i ∧ bat s (i + 1) / 64 = 2) ∧ (2 < s.size - i ∧ bat s (i + 2) / 64 = 2) from ⟨⟨by omega, k1.1.2⟩, by omega, k1.2.2⟩)]
          by_cases k2 : (bat s i % 16 * 64 + bat s (i + 1) % 64) * 64 + bat s (i + 2) % 64 < 2048 ∨ (55296 ≤ (bat s i % 16 * 64 + bat s (i + 1) % 64) * 64 + bat s (i + 2) % 64 ∧ (bat s i % 16 * 64 + bat s (i + 1) % 64) * 64 + bat s (i + 2) % 64 < 57344)
          · have e : contN s i 2 2048 (bat s i % 16) = none := by
              unfold contN
              rw [if_pos ⟨k1.1, fun _ => k1.2, by omega⟩]
              simp only [show ¬ (2 : Nat) = 1 from by omega, if_false, if_true]
              rw [if_pos (by omega)]
            rw [e, if_pos k2, if_pos ⟨rfl, rfl⟩]
          · have e : contN s i 2 2048 (bat s i % 16) = some (i + 2 + 1) := by
              unfold contN
              rw [if_pos ⟨k1.1, fun _ => k1.2, by omega⟩]
              simp only [show ¬ (2 : Nat) = 1 from by omega, if_false, if_true]
              rw [if_neg (by omega)]
            rw [e, if_neg k2, if_neg (by simp)]; rfl
        · have e : contN s i 2 2048 (bat s i % 16) = none := by
            unfold contN
            rw [if_neg (fun g => k1 ⟨g.1, g.2.1 (by omega)⟩)]
          rw [e, if_neg (show ¬ ((1 < s.size - i ∧ bat s (i + 1) / 64 = 2) ∧ (2 < s.size - i ∧ bat s (i + 2) / 64 = 2)) from fun g => k1 ⟨⟨by omega, g.1.2⟩, by omega, g.2.2⟩), if_pos ⟨rfl, rfl⟩]
      · rw [if_neg c2]
        by_cases c3 : 240 ≤ bat s i ∧ bat s i < 245
        · rw [if_pos c3, dec4 c3]
          show _ = match contN s i 3 65536 (bat s i % 8) with | some j => validD (s.data.toList.drop j) | none => false
          by_cases k1 : (i + 1 < s.size ∧ bat s (i + 1) / 64 = 2) ∧ (i + 2 < s.size ∧ bat s (i + 2) / 64 = 2) ∧ (i + 3 < s.size ∧ bat s (i + 3) / 64 = 2)
          · rw [if_pos (show (1 < s.size - i ∧ bat s (i + 1) / 64 = 2) ∧ (2 < s.size - i ∧ bat s (i + 2) / 64 = 2) ∧ (3 < s.size - i ∧ bat s (i + 3) / 64 = 2) from ⟨⟨by omega, k1.1.2⟩, ⟨by omega, k1.2.1.2⟩, by omega, k1.2.2.2⟩)]
            by_cases k2 : ((bat s i % 8 * 64 + bat s (i + 1) % 64) * 64 + bat s (i + 2) % 64) * 64 + bat s (i + 3) % 64 < 65536 ∨ 1114111 < ((bat s i % 8 * 64 + bat s (i + 1) % 64) * 64 + bat s (i + 2) % 64) * 64 + bat s (i + 3) % 64
            · have e : contN s i 3 65536 (bat s i % 8) = none := by
                unfold contN
                rw [if_pos ⟨k1.1, fun _ => k1.2.1, fun _ => k1.2.2⟩]
                simp only [show ¬ (3 : Nat) = 1 from by omega, show ¬ (3 : Nat) = 2 from by omega, if_false]
                rw [if_pos (by omega)]
              rw [e, if_pos k2, if_pos ⟨rfl, rfl⟩]
            · have e : contN s i 3 65536 (bat s i % 8) = some (i + 3 + 1) := by
                unfold contN
                rw [if_pos ⟨k1.1, fun _ => k1.2.1, fun _ => k1.2.2⟩]
                simp only [show ¬ (3 : Nat) = 1 from by omega, show ¬ (3 : Nat) = 2 from by omega, if_false]
                rw [if_neg (by omega)]
              rw [e, if_neg k2, if_neg (by simp)]; rfl
          · have e : contN s i 3 65536 (bat s i % 8) = none := by
              unfold contN
              rw [if_neg (fun g => k1 ⟨g.1, g.2.1 (by omega), g.2.2 (by omega)⟩)]
            rw [e, if_neg (show ¬ ((1 < s.size - i ∧ bat s (i + 1) / 64 = 2) ∧ (2 < s.size - i ∧ bat s (i + 2) / 64 = 2) ∧ (3 < s.size - i ∧ bat s (i + 3) / 64 = 2)) from fun g => k1 ⟨⟨by omega, g.1.2⟩, ⟨by omega, g.2.1.2⟩, by omega, g.2.2.2⟩), if_pos ⟨rfl, rfl⟩]
        · rw [if_neg c3, decodeN_bad _ _ _ _ _ (by omega)]
          simp
theorem contN_some {s : ByteArray} {i n least r0 j : Nat} (h : contN s i n least r0 = some j) : j = i + n + 1 ∧ (i + 1 < s.size ∧ bat s (i + 1) / 64 = 2) ∧ (2 ≤ n → i + 2 < s.size ∧ bat s (i + 2) / 64 = 2) ∧ (3 ≤ n → i + 3 < s.size ∧ bat s (i + 3) / 64 = 2) := by
  unfold contN at h
  split at h
  · rename_i hc
    refine ⟨?_, hc⟩
    have : ∀ (p : Prop) [Decidable p], (if p then none else some (i + n + 1)) = some j → j = i + n + 1 := fun p _ hp => by
      split at hp <;> cases hp
      rfl
    exact this _ h
  · cases h
theorem stepN_up {s : ByteArray} {i j : Nat} (h : stepN s i = some j) : i < j := by
  unfold stepN at h
  split at h
  · cases h; omega
  · split at h
    · cases h
    · have := (contN_some h).1; omega
theorem stepN_le {s : ByteArray} {i j : Nat} (hi : i < s.size) (h : stepN s i = some j) : j ≤ s.size := by
  unfold stepN at h
  split at h
  · cases h; omega
  · unfold leadN at h
    split at h
    · cases h
    · rename_i n least r0 hl
      obtain ⟨rfl, h1, h2, h3⟩ := contN_some h
      split at hl
      · cases hl; omega
      · split at hl
        · cases hl; have := h2 (by omega); omega
        · split at hl
          · cases hl; have := h3 (by omega); omega
          · cases hl
end Go.Proofs.YtlhpclfkoblnkaaDoor
