/- LabelsBytes. -/
import Derived.Test.YtnlkfajnaelnnaaGreatDoorPA1w
import Derived.Lib.ValidLaws
import Derived.Lib.Bytealg
import Derived.Test.YtnlkfajnaelnnaaGreatDoorM1w
import Derived.KernelRfl
import Derived.Lib.LaidU8T
import Derived.Shelf.Unicode.ValidAny
/- Plain laws: the document's Utf8 is the library's. -/
set_option linter.unusedVariables false
set_option maxRecDepth 100000
namespace Go.Proofs.YtnlkfajnaelnnaaGreatDoor
open Go.GB Go.Lib
/-- The byte at a place, 0 behind the end. -/
def bat (s : ByteArray) (i : Nat) : Nat := (s.data.toList.getD i 0).toNat
theorem bat_lt (s : ByteArray) (i : Nat) : bat s i < 256 := UInt8.toNat_lt _
theorem bx_bat {s : ByteArray} {i : Nat} (h : i < s.size) : bx s (i : Int) = some ((bat s i : Nat) : Int) := bx_at h
theorem fin_and {P : Nat → Prop} (h : ∀ c : Fin 256, P c.val) {n : Nat} (hn : n < 256) : P n := h ⟨n, hn⟩
theorem l79_end {s : ByteArray} {i n least r0 : Nat} {r k : Nat} (h : n < k) (hk : k < 100) : loopO (tocsinref01_Utf8_l79 s (i : Int) ((n : Int), (least : Int), (r0 : Int))) ((r : Int), (k : Int)) = some (.inl (r : Int)) := by
  refine loopO_done ?_
  unfold tocsinref01_Utf8_l79
  rw [show decide (((r : Int), (k : Int)).2 ≤ ((n : Int), (least : Int), (r0 : Int)).1) = false from decide_eq_false (by show ¬ ((k : Int) ≤ (n : Int)); omega)]
  rfl
theorem l79_step {s : ByteArray} {i n least r0 : Nat} {r k : Nat} (hs : s.size < 4611686018427387904) (hi : i < s.size) (h : k ≤ n) (hn : n ≤ 3) (hr : r < 16777216) :
    tocsinref01_Utf8_l79 s (i : Int) ((n : Int), (least : Int), (r0 : Int)) ((r : Int), (k : Int)) =
      if i + k < s.size ∧ bat s (i + k) / 64 = 2 then some (.inl (((r * 64 + bat s (i + k) % 64 : Nat) : Int), ((k + 1 : Nat) : Int))) else some (.inr (.inr (.inr (.inr (.inr false))))) := by
  unfold tocsinref01_Utf8_l79
  simp only
  rw [show decide ((k : Int) ≤ (n : Int)) = true from decide_eq_true (by omega)]
  have e1 : IntKind.wrap .i64 ((i : Int) + (k : Int)) = ((i + k : Nat) : Int) := by rw [wrap64 (by omega) (by omega)]; omega
  simp only [cond_true, e1]
  by_cases hlt : i + k < s.size
  · rw [show decide (((i + k : Nat) : Int) ≥ (s.size : Int)) = false from decide_eq_false (by omega)]
    have hb := bat_lt s (i + k)
    have h1 : (bitAnd .u8 ((bat s (i + k) : Nat) : Int) 192 != 128) = !(decide (bat s (i + k) / 64 = 2)) := fin_and (P := fun n => (bitAnd .u8 ((n : Nat) : Int) 192 != 128) = !(decide (n / 64 = 2))) and192 hb
    have h2 : bitAnd .u8 ((bat s (i + k) : Nat) : Int) 63 = ((bat s (i + k) % 64 : Nat) : Int) := fin_and (P := fun n => bitAnd .u8 ((n : Nat) : Int) 63 = ((n % 64 : Nat) : Int)) and63 hb
    simp only [cond_false, bx_bat hlt, Option.bind_some, h1, h2]
    by_cases hc : bat s (i + k) / 64 = 2
    · rw [if_pos ⟨hlt, hc⟩]
      simp only [hc, decide_true, Bool.not_true, cond_false, bx_bat hlt, Option.bind_some, h2]
      have e2 : IntKind.wrap .i64 ((r : Int) * 64) = ((r * 64 : Nat) : Int) := by rw [wrap64 (by omega) (by omega)]; omega
      have e3 : IntKind.wrap .i64 ((bat s (i + k) % 64 : Nat) : Int) = ((bat s (i + k) % 64 : Nat) : Int) := wrap64 (by omega) (by omega)
      have e4 : IntKind.wrap .i64 (((r * 64 : Nat) : Int) + ((bat s (i + k) % 64 : Nat) : Int)) = ((r * 64 + bat s (i + k) % 64 : Nat) : Int) := by rw [wrap64 (by omega) (by omega)]; omega
      have e5 : IntKind.wrap .i64 ((k : Int) + 1) = ((k + 1 : Nat) : Int) := wrap_up (by omega)
      rw [e2, e3, e4, e5]
    · rw [if_neg (fun h => hc h.2)]
      simp only [hc, decide_false, Bool.not_false, cond_true]
  · rw [show decide (((i + k : Nat) : Int) ≥ (s.size : Int)) = true from decide_eq_true (by omega), if_neg (fun h => hlt h.1)]
    simp
/-- What a lead byte says: how many follow, the least, what it bears. -/
def leadN (c : Nat) : Option (Nat × Nat × Nat) := if 194 ≤ c ∧ c < 224 then some (1, 128, c % 32) else if 224 ≤ c ∧ c < 240 then some (2, 2048, c % 16) else if 240 ≤ c ∧ c < 245 then some (3, 65536, c % 8) else none
theorem l79_all {s : ByteArray} {i n least r0 : Nat} (hs : s.size < 4611686018427387904) (hi : i < s.size) (hn : 1 ≤ n ∧ n ≤ 3) (hr : r0 < 32) :
    loopO (tocsinref01_Utf8_l79 s (i : Int) ((n : Int), (least : Int), (r0 : Int))) ((r0 : Int), 1) =
      if (i + 1 < s.size ∧ bat s (i + 1) / 64 = 2) ∧ (2 ≤ n → i + 2 < s.size ∧ bat s (i + 2) / 64 = 2) ∧ (3 ≤ n → i + 3 < s.size ∧ bat s (i + 3) / 64 = 2) then
        some (.inl ((if n = 1 then r0 * 64 + bat s (i + 1) % 64 else if n = 2 then (r0 * 64 + bat s (i + 1) % 64) * 64 + bat s (i + 2) % 64 else ((r0 * 64 + bat s (i + 1) % 64) * 64 + bat s (i + 2) % 64) * 64 + bat s (i + 3) % 64 : Nat) : Int))
      else some (.inr (.inr (.inr (.inr false)))) := by
  have h1 := l79_step (s := s) (i := i) (n := n) (least := least) (r0 := r0) (r := r0) (k := 1) hs hi (by omega) hn.2 (by omega)
  by_cases c1 : i + 1 < s.size ∧ bat s (i + 1) / 64 = 2
  · rw [if_pos c1] at h1
    rw [show (1 : Int) = ((1 : Nat) : Int) from rfl, loopO_step h1]
    have b1 := bat_lt s (i + 1)
    by_cases n1 : n = 1
    · subst n1
      rw [l79_end (by omega) (by omega), if_pos ⟨c1, by omega, by omega⟩, if_pos rfl]
    · have h2 := l79_step (s := s) (i := i) (n := n) (least := least) (r0 := r0) (r := r0 * 64 + bat s (i + 1) % 64) (k := 2) hs hi (by omega) hn.2 (by omega)
      by_cases c2 : i + 2 < s.size ∧ bat s (i + 2) / 64 = 2
      · rw [if_pos c2] at h2
        rw [show ((1 + 1 : Nat) : Int) = ((2 : Nat) : Int) from rfl, loopO_step h2]
        have b2 := bat_lt s (i + 2)
        by_cases n2 : n = 2
        · subst n2
          rw [l79_end (by omega) (by omega), if_pos ⟨c1, fun _ => c2, by omega⟩]
          rfl
        · have h3 := l79_step (s := s) (i := i) (n := n) (least := least) (r0 := r0) (r := (r0 * 64 + bat s (i + 1) % 64) * 64 + bat s (i + 2) % 64) (k := 3) hs hi (by omega) hn.2 (by omega)
          by_cases c3 : i + 3 < s.size ∧ bat s (i + 3) / 64 = 2
          · rw [if_pos c3] at h3
            rw [show ((2 + 1 : Nat) : Int) = ((3 : Nat) : Int) from rfl, loopO_step h3, l79_end (by omega) (by omega), if_pos ⟨c1, fun _ => c2, fun _ => c3⟩, if_neg n1, if_neg n2]
          · rw [if_neg c3] at h3
            rw [show ((2 + 1 : Nat) : Int) = ((3 : Nat) : Int) from rfl, loopO_done h3, if_neg (fun h => c3 (h.2.2 (by omega)))]
      · rw [if_neg c2] at h2
        rw [show ((1 + 1 : Nat) : Int) = ((2 : Nat) : Int) from rfl, loopO_done h2, if_neg (fun h => c2 (h.2.1 (by omega)))]
  · rw [if_neg c1] at h1
    rw [show (1 : Int) = ((1 : Nat) : Int) from rfl, loopO_done h1, if_neg (fun h => c1 h.1)]
def contN (s : ByteArray) (i n least r0 : Nat) : Option Nat :=
  if (i + 1 < s.size ∧ bat s (i + 1) / 64 = 2) ∧ (2 ≤ n → i + 2 < s.size ∧ bat s (i + 2) / 64 = 2) ∧ (3 ≤ n → i + 3 < s.size ∧ bat s (i + 3) / 64 = 2) then
    (let r := if n = 1 then r0 * 64 + bat s (i + 1) % 64 else if n = 2 then (r0 * 64 + bat s (i + 1) % 64) * 64 + bat s (i + 2) % 64 else ((r0 * 64 + bat s (i + 1) % 64) * 64 + bat s (i + 2) % 64) * 64 + bat s (i + 3) % 64
     if r < least ∨ r > 1114111 ∨ (55296 ≤ r ∧ r < 57344) then none else some (i + n + 1))
  else none
/-- One round of the document's loop: the place behind the rune, or none. -/
def stepN (s : ByteArray) (i : Nat) : Option Nat :=
  if bat s i < 128 then some (i + 1) else match leadN (bat s i) with
    | none => none
    | some (n, least, r0) => contN s i n least r0
theorem l17_tail {s : ByteArray} {i n least r0 : Nat} (hs : s.size < 4611686018427387904) (hi : i < s.size) (hn : 1 ≤ n ∧ n ≤ 3) (hr : r0 < 32) (hl : least ≤ 65536) {X : Option ((Int) ⊕ ((Int) ⊕ ((Unit) ⊕ (Bool))))}
    (hX : X = Option.bind (loopO (tocsinref01_Utf8_l79 s (i : Int) ((n : Int), (least : Int), (r0 : Int))) ((r0 : Int), 1)) fun (r67 : (Int) ⊕ ((Int) ⊕ ((Int) ⊕ ((Unit) ⊕ (Bool))))) =>
          match r67 with
          | Sum.inl r75 => bif (((decide (r75 < (least : Int))) || (decide (r75 > 1114111))) || ((decide (r75 ≥ 55296)) && (decide (r75 < 57344)))) then
            (some (Sum.inr (Sum.inr (Sum.inr false))))
            else
            (some (Sum.inl (IntKind.wrap .i64 ((IntKind.wrap .i64 ((i : Int) + (n : Int))) + 1))))
          | Sum.inr v102 => some v102) :
    X = match contN s i n least r0 with
      | some j => some (Sum.inl (j : Int))
      | none => some (Sum.inr (Sum.inr (Sum.inr false))) := by
  subst hX
  rw [l79_all hs hi hn hr]
  unfold contN
  split
  · simp only [Option.bind_some]
    generalize (if n = 1 then r0 * 64 + bat s (i + 1) % 64 else if n = 2 then (r0 * 64 + bat s (i + 1) % 64) * 64 + bat s (i + 2) % 64 else ((r0 * 64 + bat s (i + 1) % 64) * 64 + bat s (i + 2) % 64) * 64 + bat s (i + 3) % 64) = r
    have e1 : IntKind.wrap .i64 (IntKind.wrap .i64 ((i : Int) + (n : Int)) + 1) = ((i + n + 1 : Nat) : Int) := by
      rw [wrap64 (x := (i : Int) + (n : Int)) (by omega) (by omega), wrap64 (by omega) (by omega)]; omega
    rw [e1]
    by_cases hb : r < least ∨ r > 1114111 ∨ (55296 ≤ r ∧ r < 57344)
    · rw [if_pos hb]
      have : (((decide ((r : Int) < (least : Int))) || (decide ((r : Int) > 1114111))) || ((decide ((r : Int) ≥ 55296)) && (decide ((r : Int) < 57344)))) = true := by
        simp only [Bool.or_eq_true, Bool.and_eq_true, decide_eq_true_eq]; omega
      rw [this]; rfl
    · rw [if_neg hb]
      have : (((decide ((r : Int) < (least : Int))) || (decide ((r : Int) > 1114111))) || ((decide ((r : Int) ≥ 55296)) && (decide ((r : Int) < 57344)))) = false := by
        rw [Bool.eq_false_iff]
        simp only [ne_eq, Bool.or_eq_true, Bool.and_eq_true, decide_eq_true_eq]; omega
      rw [this]; rfl
  · rfl
theorem l17_round {s : ByteArray} {i : Nat} (hs : s.size < 4611686018427387904) (hi : i < s.size) :
    tocsinref01_Utf8_l17 s (i : Int) = match stepN s i with | some j => some (.inl (j : Int)) | none => some (.inr (.inr false)) := by
  unfold tocsinref01_Utf8_l17
  have hb := bat_lt s i
  have w1 : IntKind.wrap .i64 ((bat s i : Nat) : Int) = ((bat s i : Nat) : Int) := wrap64 (by omega) (by omega)
  rw [show decide ((i : Int) < (s.size : Int)) = true from decide_eq_true (by omega)]
  simp only [cond_true, bx_bat hi, Option.bind_some, w1]
  unfold stepN
  by_cases h0 : bat s i < 128
  · rw [if_pos h0, show decide (((bat s i : Nat) : Int) < 128) = true from decide_eq_true (by omega), show IntKind.wrap .i64 ((i : Int) + 1) = ((i + 1 : Nat) : Int) from by rw [wrap64 (by omega) (by omega)]; omega]
    rfl
  · rw [if_neg h0, show decide (((bat s i : Nat) : Int) < 128) = false from decide_eq_false (by omega)]
    simp only [cond_false]
    have a31 : bitAnd .i64 ((bat s i : Nat) : Int) 31 = ((bat s i % 32 : Nat) : Int) := fin_and (P := fun n => bitAnd .i64 ((n : Nat) : Int) 31 = ((n % 32 : Nat) : Int)) and31 hb
    have a15 : bitAnd .i64 ((bat s i : Nat) : Int) 15 = ((bat s i % 16 : Nat) : Int) := fin_and (P := fun n => bitAnd .i64 ((n : Nat) : Int) 15 = ((n % 16 : Nat) : Int)) and15 hb
    have a7 : bitAnd .i64 ((bat s i : Nat) : Int) 7 = ((bat s i % 8 : Nat) : Int) := fin_and (P := fun n => bitAnd .i64 ((n : Nat) : Int) 7 = ((n % 8 : Nat) : Int)) Go.GB.and7 hb
    simp only [a31, a15, a7]
    unfold leadN
    by_cases c1 : 194 ≤ bat s i ∧ bat s i < 224
    · have : ((decide (((bat s i : Nat) : Int) ≥ 194)) && (decide (((bat s i : Nat) : Int) < 224))) = true := by simp only [Bool.and_eq_true, decide_eq_true_eq]; omega
      simp only [this, cond_true, Option.bind_some, if_pos c1]
      have hT := l17_tail (s := s) (i := i) (n := 1) (least := 128) (r0 := bat s i % 32) hs hi (by omega) (by omega) (by omega) rfl
      simp only [show ((1 : Nat) : Int) = 1 from rfl, show ((128 : Nat) : Int) = 128 from rfl] at hT
      refine Eq.trans (congrArg (fun X => Option.bind X _) hT) ?_
      cases contN s i 1 128 (bat s i % 32) <;> rfl
    · have f1 : ((decide (((bat s i : Nat) : Int) ≥ 194)) && (decide (((bat s i : Nat) : Int) < 224))) = false := by rw [Bool.eq_false_iff]; simp only [ne_eq, Bool.and_eq_true, decide_eq_true_eq]; omega
      simp only [f1, cond_false, if_neg c1]
      by_cases c2 : 224 ≤ bat s i ∧ bat s i < 240
      · have : ((decide (((bat s i : Nat) : Int) ≥ 224)) && (decide (((bat s i : Nat) : Int) < 240))) = true := by simp only [Bool.and_eq_true, decide_eq_true_eq]; omega
        simp only [this, cond_true, Option.bind_some, if_pos c2]
        have hT := l17_tail (s := s) (i := i) (n := 2) (least := 2048) (r0 := bat s i % 16) hs hi (by omega) (by omega) (by omega) rfl
        simp only [show ((2 : Nat) : Int) = 2 from rfl, show ((2048 : Nat) : Int) = 2048 from rfl] at hT
        refine Eq.trans (congrArg (fun X => Option.bind X _) hT) ?_
        cases contN s i 2 2048 (bat s i % 16) <;> rfl
      · have f2 : ((decide (((bat s i : Nat) : Int) ≥ 224)) && (decide (((bat s i : Nat) : Int) < 240))) = false := by rw [Bool.eq_false_iff]; simp only [ne_eq, Bool.and_eq_true, decide_eq_true_eq]; omega
        simp only [f2, cond_false, if_neg c2]
        by_cases c3 : 240 ≤ bat s i ∧ bat s i < 245
        · have : ((decide (((bat s i : Nat) : Int) ≥ 240)) && (decide (((bat s i : Nat) : Int) < 245))) = true := by simp only [Bool.and_eq_true, decide_eq_true_eq]; omega
          simp only [this, cond_true, Option.bind_some, if_pos c3]
          have hT := l17_tail (s := s) (i := i) (n := 3) (least := 65536) (r0 := bat s i % 8) hs hi (by omega) (by omega) (by omega) rfl
          simp only [show ((3 : Nat) : Int) = 3 from rfl, show ((65536 : Nat) : Int) = 65536 from rfl] at hT
          refine Eq.trans (congrArg (fun X => Option.bind X _) hT) ?_
          cases contN s i 3 65536 (bat s i % 8) <;> rfl
        · have f3 : ((decide (((bat s i : Nat) : Int) ≥ 240)) && (decide (((bat s i : Nat) : Int) < 245))) = false := by rw [Bool.eq_false_iff]; simp only [ne_eq, Bool.and_eq_true, decide_eq_true_eq]; omega
          simp only [f3, cond_false, if_neg c3, Option.bind_some]
theorem getD_drop (l : List UInt8) (i k : Nat) : (l.drop i).getD k 0 = l.getD (i + k) 0 := by simp [List.getD_eq_getElem?_getD, List.getElem?_drop]
theorem dec2 {n c b1 b2 b3 : Nat} (hc : 194 ≤ c ∧ c < 224) : decodeN n c b1 b2 b3 = if 1 < n ∧ b1 / 64 = 2 then (c % 32 * 64 + b1 % 64, 2) else (65533, 1) := by
  unfold decodeN
  rw [if_neg (by omega)]
  by_cases h : 1 < n ∧ b1 / 64 = 2
  · rw [if_pos ⟨by omega, h⟩, if_pos (by omega), if_pos h]
  · rw [if_neg (fun g => h g.2), if_neg (fun g => h g.2.1), if_neg (fun g => h g.2.1), if_neg h]
theorem dec3 {n c b1 b2 b3 : Nat} (hc : 224 ≤ c ∧ c < 240) : decodeN n c b1 b2 b3 = if (1 < n ∧ b1 / 64 = 2) ∧ (2 < n ∧ b2 / 64 = 2) then
    (if (c % 16 * 64 + b1 % 64) * 64 + b2 % 64 < 2048 ∨ (55296 ≤ (c % 16 * 64 + b1 % 64) * 64 + b2 % 64 ∧ (c % 16 * 64 + b1 % 64) * 64 + b2 % 64 < 57344) then (65533, 1) else ((c % 16 * 64 + b1 % 64) * 64 + b2 % 64, 3)) else (65533, 1) := by
  unfold decodeN
  rw [if_neg (by omega), if_neg (by omega)]
  by_cases h : (1 < n ∧ b1 / 64 = 2) ∧ (2 < n ∧ b2 / 64 = 2)
  · rw [if_pos ⟨by omega, h⟩, if_pos h]
    have e : c % 16 * 4096 + b1 % 64 * 64 + b2 % 64 = (c % 16 * 64 + b1 % 64) * 64 + b2 % 64 := by omega
    rw [e]
    by_cases h2 : (c % 16 * 64 + b1 % 64) * 64 + b2 % 64 < 2048 ∨ (55296 ≤ (c % 16 * 64 + b1 % 64) * 64 + b2 % 64 ∧ (c % 16 * 64 + b1 % 64) * 64 + b2 % 64 < 57344)
    · rw [if_pos h2, if_neg (by omega)]
    · rw [if_neg h2, if_pos (by omega)]
  · rw [if_neg (fun g => h g.2), if_neg (fun g => h ⟨g.2.1, g.2.2.1⟩), if_neg h]
theorem dec4 {n c b1 b2 b3 : Nat} (hc : 240 ≤ c ∧ c < 245) : decodeN n c b1 b2 b3 = if (1 < n ∧ b1 / 64 = 2) ∧ (2 < n ∧ b2 / 64 = 2) ∧ (3 < n ∧ b3 / 64 = 2) then
    (if ((c % 8 * 64 + b1 % 64) * 64 + b2 % 64) * 64 + b3 % 64 < 65536 ∨ 1114111 < ((c % 8 * 64 + b1 % 64) * 64 + b2 % 64) * 64 + b3 % 64 then (65533, 1) else (((c % 8 * 64 + b1 % 64) * 64 + b2 % 64) * 64 + b3 % 64, 4)) else (65533, 1) := by
  unfold decodeN
  rw [if_neg (by omega), if_neg (by omega), if_neg (by omega)]
  by_cases h : (1 < n ∧ b1 / 64 = 2) ∧ (2 < n ∧ b2 / 64 = 2) ∧ (3 < n ∧ b3 / 64 = 2)
  · rw [if_pos ⟨by omega, h⟩, if_pos h]
    have e : c % 8 * 262144 + b1 % 64 * 4096 + b2 % 64 * 64 + b3 % 64 = ((c % 8 * 64 + b1 % 64) * 64 + b2 % 64) * 64 + b3 % 64 := by omega
    rw [e]
    by_cases h2 : ((c % 8 * 64 + b1 % 64) * 64 + b2 % 64) * 64 + b3 % 64 < 65536 ∨ 1114111 < ((c % 8 * 64 + b1 % 64) * 64 + b2 % 64) * 64 + b3 % 64
    · rw [if_pos h2, if_neg (by omega)]
    · rw [if_neg h2, if_pos (by omega)]
  · rw [if_neg (fun g => h g.2), if_neg h]
set_option maxHeartbeats 1000000 in
/-- The document's round and the library's are one. -/
theorem stepN_valid {s : ByteArray} {i : Nat} (hi : i < s.size) : validD (s.data.toList.drop i) = match stepN s i with | some j => validD (s.data.toList.drop j) | none => false := by
  have hl : s.data.toList.length = s.size := size_list s
  have hne : s.data.toList.drop i ≠ [] := by intro h; have := congrArg List.length h; simp at this; omega
  have hlen : (s.data.toList.drop i).length = s.size - i := by rw [List.length_drop, hl]
  rw [validD_step _ hne, decodeL_N, hlen]
  simp only [getD_drop, Nat.add_zero]
  have b0 := bat_lt s i
  change (if (decodeN (s.size - i) (bat s i) (bat s (i + 1)) (bat s (i + 2)) (bat s (i + 3))).1 = 65533 ∧ (decodeN (s.size - i) (bat s i) (bat s (i + 1)) (bat s (i + 2)) (bat s (i + 3))).2 = 1 then false else validD ((s.data.toList.drop i).drop (decodeN (s.size - i) (bat s i) (bat s (i + 1)) (bat s (i + 2)) (bat s (i + 3))).2)) = _
  rw [List.drop_drop]
  unfold stepN leadN
  by_cases h0 : bat s i < 128
  · rw [if_pos h0, show decodeN (s.size - i) (bat s i) (bat s (i + 1)) (bat s (i + 2)) (bat s (i + 3)) = (bat s i, 1) from by unfold decodeN; rw [if_pos h0]]
    rw [if_neg (by simp; omega)]
  · rw [if_neg h0]
    by_cases c1 : 194 ≤ bat s i ∧ bat s i < 224
    · rw [if_pos c1, dec2 c1]
      show _ = match contN s i 1 128 (bat s i % 32) with | some j => validD (s.data.toList.drop j) | none => false
      by_cases k1 : i + 1 < s.size ∧ bat s (i + 1) / 64 = 2
      · have e : contN s i 1 128 (bat s i % 32) = some (i + 1 + 1) := by
          unfold contN
          rw [if_pos ⟨k1, by omega, by omega⟩]
          simp only [if_true]
          rw [if_neg (by omega)]
        rw [e, if_pos (show 1 < s.size - i ∧ bat s (i + 1) / 64 = 2 from ⟨by omega, k1.2⟩), if_neg (by simp)]; rfl
      · have e : contN s i 1 128 (bat s i % 32) = none := by
          unfold contN
          rw [if_neg (fun g => k1 g.1)]
        rw [e, if_neg (show ¬ (1 < s.size - i ∧ bat s (i + 1) / 64 = 2) from fun g => k1 ⟨by omega, g.2⟩), if_pos ⟨rfl, rfl⟩]
    · rw [if_neg c1]
      by_cases c2 : 224 ≤ bat s i ∧ bat s i < 240
      · rw [if_pos c2, dec3 c2]
        show _ = match contN s i 2 2048 (bat s i % 16) with | some j => validD (s.data.toList.drop j) | none => false
        by_cases k1 : (i + 1 < s.size ∧ bat s (i + 1) / 64 = 2) ∧ (i + 2 < s.size ∧ bat s (i + 2) / 64 = 2)
        · rw [if_pos (show (1 < s.size - i ∧ bat s (i + 1) / 64 = 2) ∧ (2 < s.size - i ∧ bat s (i + 2) / 64 = 2) from ⟨⟨by omega, k1.1.2⟩, by omega, k1.2.2⟩)]
          by_cases k2 : (bat s i % 16 * 64 + bat s (i + 1) % 64) * 64 + bat s (i + 2) % 64 < 2048 ∨ (55296 ≤ (bat s i % 16 * 64 + bat s (i + 1) % 64) * 64 + bat s (i + 2) % 64 ∧ (bat s i % 16 * 64 + bat s (i + 1) % 64) * 64 + bat s (i + 2) % 64 < 57344)
          · have e : contN s i 2 2048 (bat s i % 16) = none := by
              unfold contN
              rw [if_pos ⟨k1.1, fun _ => k1.2, by omega⟩]
              simp only [show ¬ (2 : Nat) = 1 from by omega, if_false, if_true]
              rw [if_pos (by omega)]
            rw [e, if_pos k2, if_pos ⟨rfl, rfl⟩]
          · have e : contN s i 2 2048 (bat s i % 16) = some (i + 2 + 1) := by
              unfold contN
              rw [if_pos ⟨k1.1, fun _ => k1.2, by omega⟩]
              simp only [show ¬ (2 : Nat) = 1 from by omega, if_false, if_true]
              rw [if_neg (by omega)]
            rw [e, if_neg k2, if_neg (by simp)]; rfl
        · have e : contN s i 2 2048 (bat s i % 16) = none := by
            unfold contN
            rw [if_neg (fun g => k1 ⟨g.1, g.2.1 (by omega)⟩)]
          rw [e, if_neg (show ¬ ((1 < s.size - i ∧ bat s (i + 1) / 64 = 2) ∧ (2 < s.size - i ∧ bat s (i + 2) / 64 = 2)) from fun g => k1 ⟨⟨by omega, g.1.2⟩, by omega, g.2.2⟩), if_pos ⟨rfl, rfl⟩]
      · rw [if_neg c2]
        by_cases c3 : 240 ≤ bat s i ∧ bat s i < 245
        · rw [if_pos c3, dec4 c3]
          show _ = match contN s i 3 65536 (bat s i % 8) with | some j => validD (s.data.toList.drop j) | none => false
          by_cases k1 : (i + 1 < s.size ∧ bat s (i + 1) / 64 = 2) ∧ (i + 2 < s.size ∧ bat s (i + 2) / 64 = 2) ∧ (i + 3 < s.size ∧ bat s (i + 3) / 64 = 2)
          · rw [if_pos (show (1 < s.size - i ∧ bat s (i + 1) / 64 = 2) ∧ (2 < s.size - i ∧ bat s (i + 2) / 64 = 2) ∧ (3 < s.size - i ∧ bat s (i + 3) / 64 = 2) from ⟨⟨by omega, k1.1.2⟩, ⟨by omega, k1.2.1.2⟩, by omega, k1.2.2.2⟩)]
            by_cases k2 : ((bat s i % 8 * 64 + bat s (i + 1) % 64) * 64 + bat s (i + 2) % 64) * 64 + bat s (i + 3) % 64 < 65536 ∨ 1114111 < ((bat s i % 8 * 64 + bat s (i + 1) % 64) * 64 + bat s (i + 2) % 64) * 64 + bat s (i + 3) % 64
            · have e : contN s i 3 65536 (bat s i % 8) = none := by
                unfold contN
                rw [if_pos ⟨k1.1, fun _ => k1.2.1, fun _ => k1.2.2⟩]
                simp only [show ¬ (3 : Nat) = 1 from by omega, show ¬ (3 : Nat) = 2 from by omega, if_false]
                rw [if_pos (by omega)]
              rw [e, if_pos k2, if_pos ⟨rfl, rfl⟩]
            · have e : contN s i 3 65536 (bat s i % 8) = some (i + 3 + 1) := by
                unfold contN
                rw [if_pos ⟨k1.1, fun _ => k1.2.1, fun _ => k1.2.2⟩]
                simp only [show ¬ (3 : Nat) = 1 from by omega, show ¬ (3 : Nat) = 2 from by omega, if_false]
                rw [if_neg (by omega)]
              rw [e, if_neg k2, if_neg (by simp)]; rfl
          · have e : contN s i 3 65536 (bat s i % 8) = none := by
              unfold contN
              rw [if_neg (fun g => k1 ⟨g.1, g.2.1 (by omega), g.2.2 (by omega)⟩)]
            rw [e, if_neg (show ¬ ((1 < s.size - i ∧ bat s (i + 1) / 64 = 2) ∧ (2 < s.size - i ∧ bat s (i + 2) / 64 = 2) ∧ (3 < s.size - i ∧ bat s (i + 3) / 64 = 2)) from fun g => k1 ⟨⟨by omega, g.1.2⟩, ⟨by omega, g.2.1.2⟩, by omega, g.2.2.2⟩), if_pos ⟨rfl, rfl⟩]
        · rw [if_neg c3, decodeN_bad _ _ _ _ _ (by omega)]
          simp
theorem contN_some {s : ByteArray} {i n least r0 j : Nat} (h : contN s i n least r0 = some j) : j = i + n + 1 ∧ (i + 1 < s.size ∧ bat s (i + 1) / 64 = 2) ∧ (2 ≤ n → i + 2 < s.size ∧ bat s (i + 2) / 64 = 2) ∧ (3 ≤ n → i + 3 < s.size ∧ bat s (i + 3) / 64 = 2) := by
  unfold contN at h
  split at h
  · rename_i hc
    refine ⟨?_, hc⟩
    have : ∀ (p : Prop) [Decidable p], (if p then none else some (i + n + 1)) = some j → j = i + n + 1 := fun p _ hp => by
      split at hp <;> cases hp
      rfl
    exact this _ h
  · cases h
theorem stepN_up {s : ByteArray} {i j : Nat} (h : stepN s i = some j) : i < j := by
  unfold stepN at h
  split at h
  · cases h; omega
  · split at h
    · cases h
    · have := (contN_some h).1; omega
theorem stepN_le {s : ByteArray} {i j : Nat} (hi : i < s.size) (h : stepN s i = some j) : j ≤ s.size := by
  unfold stepN at h
  split at h
  · cases h; omega
  · unfold leadN at h
    split at h
    · cases h
    · rename_i n least r0 hl
      obtain ⟨rfl, h1, h2, h3⟩ := contN_some h
      split at hl
      · cases hl; omega
      · split at hl
        · cases hl; have := h2 (by omega); omega
        · split at hl
          · cases hl; have := h3 (by omega); omega
          · cases hl
theorem utf8_loop {s : ByteArray} (hs : s.size < 4611686018427387904) : ∀ d i : Nat, s.size - i = d → i ≤ s.size → loopO (tocsinref01_Utf8_l17 s) (i : Int) = some (if validD (s.data.toList.drop i) then .inl () else .inr false) := by
  intro d
  induction d using Nat.strongRecOn with
  | _ d ih =>
    intro i hd hi
    by_cases hlt : i < s.size
    · have hr := l17_round hs hlt
      have hv := stepN_valid hlt
      cases hn : stepN s i with
      | none =>
        rw [hn] at hr hv
        rw [loopO_done hr, hv]; rfl
      | some j =>
        rw [hn] at hr hv
        have h1 := stepN_up hn
        have h2 := stepN_le hlt hn
        rw [loopO_step hr, hv]
        exact ih (s.size - j) (by omega) j rfl h2
    · have : i = s.size := by omega
      subst this
      have he : tocsinref01_Utf8_l17 s (s.size : Int) = some (.inr (.inl ())) := by
        unfold tocsinref01_Utf8_l17
        rw [show decide ((s.size : Int) < (s.size : Int)) = false from decide_eq_false (by omega)]
        rfl
      rw [loopO_done he]
      rw [show s.data.toList.drop s.size = [] from List.drop_eq_nil_of_le (Nat.le_of_eq (size_list s))]
      rfl
/-- The document's Utf8 is the library's ValidString. -/
theorem refUtf8_eq {s : ByteArray} (hs : s.size < 4611686018427387904) : tocsinref01_Utf8 s = some (validD s.data.toList) := by
  unfold tocsinref01_Utf8
  have := utf8_loop hs s.size 0 (by omega) (by omega)
  rw [show ((0 : Nat) : Int) = 0 from rfl, List.drop_zero] at this
  rw [this]
  cases validD s.data.toList <;> rfl
theorem valid_eq {s : ByteArray} (hs : s.size < 4611686018427387904) : utf8_ValidString s = some (validD s.data.toList) := by
  unfold utf8_ValidString
  rw [if_pos (by omega)]
end Go.Proofs.YtnlkfajnaelnnaaGreatDoor

/- Plain laws, base: the order of texts. -/
set_option linter.unusedVariables false
namespace Go.GB
open Go.Lib
theorem cb_self : ∀ a : List UInt8, compareBytes a a = 0
  | [] => rfl
  | a :: xs => by unfold compareBytes; rw [if_neg (UInt8.lt_irrefl a), if_neg (UInt8.lt_irrefl a)]; exact cb_self xs
theorem cb_swap : ∀ a b : List UInt8, compareBytes b a = - compareBytes a b
  | [], [] => rfl
  | [], _ :: _ => rfl
  | _ :: _, [] => rfl
  | a :: xs, b :: ys => by
    unfold compareBytes
    by_cases h1 : a < b
    · have h2 : ¬ b < a := fun h => UInt8.lt_irrefl a (UInt8.lt_trans h1 h)
      rw [if_pos h1, if_neg h2, if_pos h1]; rfl
    · by_cases h2 : b < a
      · rw [if_pos h2, if_neg h1, if_pos h2]
      · rw [if_neg h2, if_neg h1, if_neg h1, if_neg h2]; exact cb_swap xs ys
theorem u8_eq {a b : UInt8} (h1 : ¬ a < b) (h2 : ¬ b < a) : a = b := UInt8.le_antisymm (UInt8.not_lt.1 h2) (UInt8.not_lt.1 h1)
theorem cb_zero : ∀ a b : List UInt8, compareBytes a b = 0 → a = b
  | [], [], _ => rfl
  | [], _ :: _, h => by simp [compareBytes] at h
  | _ :: _, [], h => by simp [compareBytes] at h
  | a :: xs, b :: ys, h => by
    unfold compareBytes at h
    by_cases h1 : a < b
    · rw [if_pos h1] at h; cases h
    · by_cases h2 : b < a
      · rw [if_neg h1, if_pos h2] at h; cases h
      · rw [if_neg h1, if_neg h2] at h
        rw [cb_zero xs ys h, u8_eq h1 h2]
theorem cb_range : ∀ a b : List UInt8, compareBytes a b = -1 ∨ compareBytes a b = 0 ∨ compareBytes a b = 1
  | [], [] => by simp [compareBytes]
  | [], _ :: _ => by simp [compareBytes]
  | _ :: _, [] => by simp [compareBytes]
  | a :: xs, b :: ys => by
    unfold compareBytes
    split
    · simp
    · split
      · simp
      · exact cb_range xs ys
theorem cb_less : ∀ a b : List UInt8, Op.bytesLess a b = decide (compareBytes a b = -1)
  | [], [] => by simp [compareBytes, Op.bytesLess]
  | [], _ :: _ => by simp [compareBytes, Op.bytesLess]
  | _ :: _, [] => by simp [compareBytes, Op.bytesLess]
  | a :: xs, b :: ys => by
    unfold compareBytes Op.bytesLess
    by_cases h1 : a < b
    · simp [h1]
    · by_cases h2 : b < a
      · have h3 : (a == b) = false := by
          rw [beq_eq_false_iff_ne]; rintro rfl; exact h1 h2
        simp [h1, h2, h3]
      · have h3 := u8_eq h1 h2
        subst h3
        simp [h1, cb_less xs ys]
def cmpS (a b : ByteArray) : Int := compareBytes a.data.toList b.data.toList
theorem cmpS_self (a : ByteArray) : cmpS a a = 0 := cb_self _
theorem cmpS_swap (a b : ByteArray) : cmpS b a = - cmpS a b := cb_swap _ _
theorem ba_eq {a b : ByteArray} (h : a.data.toList = b.data.toList) : a = b := by
  obtain ⟨⟨x⟩⟩ := a
  obtain ⟨⟨y⟩⟩ := b
  simpa using h
theorem cmpS_zero {a b : ByteArray} (h : cmpS a b = 0) : a = b := ba_eq (cb_zero _ _ h)
theorem cmpS_range (a b : ByteArray) : cmpS a b = -1 ∨ cmpS a b = 0 ∨ cmpS a b = 1 := cb_range _ _
theorem toList_eq (a : ByteArray) : a.toList = a.data.toList := ByteArray.toList_eq a
theorem less_eq (a b : ByteArray) : Op.bytesLess a.toList b.toList = decide (cmpS a b = -1) := by rw [toList_eq, toList_eq]; exact cb_less _ _
theorem beq_eq (a b : ByteArray) : (a.toList == b.toList) = decide (cmpS a b = 0) := by
  rw [Bool.eq_iff_iff, toList_inj, decide_eq_true_iff]
  exact ⟨fun h => by rw [h]; exact cmpS_self _, cmpS_zero⟩
end Go.GB

/- Plain laws: names, values, label sets: the program's are the document's. -/
set_option linter.unusedVariables false
set_option maxRecDepth 100000
namespace Go.Proofs.YtnlkfajnaelnnaaGreatDoor
open Go.GB Go.Lib
theorem ix_bytes {s : ByteArray} {i : Nat} (h : i < s.size) : ix (bytesOf s) (i : Int) = some ((bat s i : Nat) : Int) := by
  rw [ix_nat]
  unfold bytesOf bat
  have : i < s.data.toList.length := by rw [size_list]; exact h
  rw [List.getElem?_map, List.getElem?_eq_getElem this, List.getD_eq_getElem?_getD, List.getElem?_eq_getElem this]
  rfl
noncomputable def namedB (s : ByteArray) (most : Nat) (colon : Bool) : Bool := decide (s.size ≠ 0) && (decide (s.size ≤ most) && (!labels_digit (bat s 0) && (List.range s.size).all fun i => labels_letter (bat s i) || (labels_digit (bat s i) || (colon && ((bat s i : Nat) : Int) == 58))))
theorem named_eq (s : ByteArray) {most : Nat} (hm : most ≤ 2147483648) (colon : Bool) : labels_named s (most : Int) colon = some (namedB s most colon) := by
  unfold labels_named namedB
  rw [nil_size]
  by_cases h0 : s.size = 0
  · simp [h0]
  · by_cases h1 : s.size ≤ most
    · have e1 : decide ((s.size : Int) > (most : Int)) = false := decide_eq_false (by omega)
      have e2 : bx s 0 = some ((bat s 0 : Nat) : Int) := bx_bat (i := 0) (by omega)
      simp only [h0, decide_false, cond_false, e1, e2, Option.bind_some, not_false_eq_true, ne_eq, decide_true, h1, Bool.true_and]
      cases hd : labels_digit ((bat s 0 : Nat) : Int) with
      | true => simp
      | false =>
        have e3 : sb s = some (bytesOf s) := by unfold sb maxLen'; rw [if_pos (by omega)]
        simp only [cond_false, e3, Option.bind_some, Bool.not_false, Bool.true_and]
        rw [up_all (n := s.size) (fun i => labels_letter (bat s i) || (labels_digit (bat s i) || (colon && ((bat s i : Nat) : Int) == 58))) (fun i hi => ?_) ?_]
        · simp only [Option.bind_some]
          cases (List.range s.size).all fun i => labels_letter (bat s i) || (labels_digit (bat s i) || (colon && ((bat s i : Nat) : Int) == 58)) <;> rfl
        · unfold labels_named_l33
          rw [show decide ((s.size : Int) < ((bytesOf s).length : Int)) = false from decide_eq_false (by rw [bytesOf_length]; omega)]
          rfl
        · unfold labels_named_l33
          rw [show decide ((i : Int) < ((bytesOf s).length : Int)) = true from decide_eq_true (by rw [bytesOf_length]; omega)]
          simp only [cond_true, ix_bytes hi, Option.bind_some, wrap_up (show i < 4294967296 by omega)]
          cases labels_letter ((bat s i : Nat) : Int) <;> cases labels_digit ((bat s i : Nat) : Int) <;> cases (colon && ((bat s i : Nat) : Int) == 58) <;> rfl
    · have e1 : decide ((s.size : Int) > (most : Int)) = true := decide_eq_true (by omega)
      simp only [h0, h1, decide_false, decide_true, cond_false, e1, cond_true, Option.bind_some, ne_eq, not_false_eq_true, Bool.false_and, Bool.and_false]
theorem Name_eq (s : ByteArray) : labels_Name s = some (namedB s 64 false) := by
  unfold labels_Name
  rw [show (64 : Int) = ((64 : Nat) : Int) from rfl, named_eq s (by omega) false]
  rfl
theorem let_not_dig (c : Int) : labels_letter c = true → labels_digit c = false := by
  unfold labels_letter labels_digit
  intro h
  rw [Bool.eq_false_iff]
  simp only [Bool.or_eq_true, Bool.and_eq_true, decide_eq_true_eq, beq_iff_eq] at h
  simp only [ne_eq, Bool.and_eq_true, decide_eq_true_eq]
  omega
theorem refName_eq (s : ByteArray) : tocsinref04_Name s = some (namedB s 64 false) := by
  unfold tocsinref04_Name namedB
  rw [nil_size]
  by_cases h0 : s.size = 0
  · simp [h0]
  · by_cases h1 : s.size ≤ 64
    · have e1 : decide ((s.size : Int) > 64) = false := decide_eq_false (by omega)
      simp only [h0, decide_false, e1, Bool.or_self, cond_false, not_false_eq_true, ne_eq, decide_true, h1, Bool.true_and]
      have hq : (!labels_digit ((bat s 0 : Nat) : Int) && (List.range s.size).all fun i => labels_letter (bat s i) || (labels_digit (bat s i) || (false && ((bat s i : Nat) : Int) == 58))) = (List.range s.size).all fun i => labels_letter (bat s i) || (decide (i ≠ 0) && labels_digit (bat s i)) := by
        rw [Bool.eq_iff_iff, Bool.and_eq_true, List.all_eq_true, List.all_eq_true]
        constructor
        · rintro ⟨h2, h3⟩ i hi
          have := h3 i hi
          by_cases hi0 : i = 0
          · subst hi0
            simp only [Bool.not_eq_true'] at h2
            simpa [h2] using this
          · simpa [hi0] using this
        · intro h3
          refine ⟨?_, fun i hi => ?_⟩
          · have := h3 0 (List.mem_range.2 (by omega))
            simp only [ne_eq, not_true_eq_false, decide_false, Bool.false_and, Bool.or_false] at this
            rw [let_not_dig _ this]; rfl
          · have := h3 i hi
            simp only [Bool.or_eq_true, Bool.and_eq_true] at this ⊢
            rcases this with h | h
            · exact .inl h
            · exact .inr (.inl h.2)
      rw [hq, up_all (n := s.size) (fun i => labels_letter (bat s i) || (decide (i ≠ 0) && labels_digit (bat s i))) (fun i hi => ?_) ?_]
      · simp only [Option.bind_some]
        cases (List.range s.size).all fun i => labels_letter (bat s i) || (decide (i ≠ 0) && labels_digit (bat s i)) <;> rfl
      · unfold tocsinref04_Name_l24
        rw [show decide ((s.size : Int) < (s.size : Int)) = false from decide_eq_false (by omega)]
        rfl
      · unfold tocsinref04_Name_l24
        rw [show decide ((i : Int) < (s.size : Int)) = true from decide_eq_true (by omega)]
        have el : ∀ c, tocsinref04_letter c = labels_letter c := fun _ => rfl
        have ed : ∀ c, tocsinref04_digit c = labels_digit c := fun _ => rfl
        simp only [cond_true, bx_bat hi, Option.bind_some, wrap_up (show i < 4294967296 by omega), el, ed]
        by_cases hi0 : i = 0
        · subst hi0
          cases labels_letter ((bat s 0 : Nat) : Int) <;> rfl
        · have e2 : ((i : Int) == 0) = false := by rw [beq_eq_false_iff_ne]; omega
          simp only [e2, hi0, cond_false]
          cases labels_letter ((bat s i : Nat) : Int) <;> cases labels_digit ((bat s i : Nat) : Int) <;> simp [hi0]
    · have e1 : decide ((s.size : Int) > 64) = true := decide_eq_true (by omega)
      simp only [e1, h1, Bool.or_true, cond_true, decide_false, Bool.false_and, Bool.and_false]
noncomputable def valueE (s : ByteArray) : Int := if s.size = 0 then 41 else if s.size > 256 then 4 else if validD s.data.toList then 0 else 12
theorem value_eq (s : ByteArray) : labels_value s = some (valueE s) := by
  unfold labels_value valueE
  rw [nil_size]
  by_cases h0 : s.size = 0
  · simp [h0]
  · by_cases h1 : s.size > 256
    · simp [h0, h1, show decide ((s.size : Int) > 256) = true from decide_eq_true (by omega)]
    · have e1 : decide ((s.size : Int) > 256) = false := decide_eq_false (by omega)
      simp only [h0, decide_false, cond_false, e1, valid_eq (show s.size < 4611686018427387904 by omega), Option.bind_some, if_false, h1]
      cases validD s.data.toList <;> rfl
noncomputable def oneE (x : S49) : Int := if namedB x.f0 64 false then valueE x.f1 else 40
theorem refOne_eq (x : S49) : tocsinref04_one x = some (oneE x) := by
  unfold tocsinref04_one oneE
  rw [refName_eq, nil_size]
  simp only [Option.bind_some]
  cases namedB x.f0 64 false with
  | false => rfl
  | true =>
    simp only [Bool.not_true, cond_false, if_true]
    unfold valueE
    by_cases h0 : x.f1.size = 0
    · simp [h0]
    · by_cases h1 : x.f1.size > 256
      · simp [h0, h1, show decide ((x.f1.size : Int) > 256) = true from decide_eq_true (by omega)]
      · have e1 : decide ((x.f1.size : Int) > 256) = false := decide_eq_false (by omega)
        simp only [h0, decide_false, cond_false, e1, refUtf8_eq (show x.f1.size < 4611686018427387904 by omega), Option.bind_some, if_false, h1]
        cases validD x.f1.data.toList <;> rfl
/-- The first fault of a label set, at a place. -/
noncomputable def faultAt (l : List S49) (i : Nat) : Option (Int × Int) := match l[i]? with
  | none => none
  | some x => if oneE x ≠ 0 then some (oneE x, (i : Int)) else if i = 0 then none else match l[i - 1]? with
    | none => none
    | some y => if cmpS y.f0 x.f0 = -1 then none else some (3, (i : Int))
noncomputable def rightE (l : List S49) : Int × Int := if l.length > 16 then (8, 0) else ((List.range l.length).findSome? (faultAt l)).getD (0, 0)
theorem oneE_ne {x : S49} (h : namedB x.f0 64 false = false) : oneE x = 40 := by unfold oneE; rw [h]; rfl
theorem ix_prev {α : Type} {l : List α} {i : Nat} (h0 : 0 < i) (hi : i < 4294967296) : ix l (IntKind.wrap .i64 ((i : Int) - 1)) = l[i - 1]? := by
  rw [wrap64 (by omega) (by omega), show (i : Int) - 1 = ((i - 1 : Nat) : Int) by omega, ix_nat]
theorem Right_eq (l : List S49) : labels_Right l = some (rightE l) := by
  unfold labels_Right rightE
  by_cases hl : l.length > 16
  · simp [hl, show decide ((l.length : Int) > 16) = true from decide_eq_true (by omega)]
  · rw [show decide ((l.length : Int) > 16) = false from decide_eq_false (by omega), if_neg hl]
    simp only [cond_false]
    rw [up_find (n := l.length) (faultAt l) (fun i hi => ?_) ?_]
    · simp only [Option.bind_some]
      cases (List.range l.length).findSome? (faultAt l) <;> rfl
    · unfold labels_Right_l18
      rw [show decide ((l.length : Int) < (l.length : Int)) = false from decide_eq_false (by omega)]
      rfl
    · unfold labels_Right_l18 faultAt
      have hx : l[i]? = some l[i] := List.getElem?_eq_getElem hi
      rw [show decide ((i : Int) < (l.length : Int)) = true from decide_eq_true (by omega)]
      simp only [cond_true, ix_nat, hx, Option.bind_some, Name_eq, value_eq]
      cases hn : namedB l[i].f0 64 false with
      | false => rw [oneE_ne hn]; rfl
      | true =>
        have ho : oneE l[i] = valueE l[i].f1 := by unfold oneE; rw [hn]; rfl
        rw [ho]
        simp only [Bool.not_true, cond_false]
        by_cases hv : valueE l[i].f1 = 0
        · have e2 : (valueE l[i].f1 != 0) = false := by simp [hv]
          rw [if_neg (by simpa using hv)]
          simp only [e2, cond_false, wrap_up (show i < 4294967296 by omega)]
          by_cases hi0 : i = 0
          · subst hi0
            simp
          · have e3 : decide ((i : Int) > 0) = true := decide_eq_true (by omega)
            have hy : l[i - 1]? = some (l[i - 1]'(by omega)) := List.getElem?_eq_getElem (by omega)
            rw [if_neg hi0]
            simp only [e3, cond_true, ix_prev (show 0 < i by omega) (show i < 4294967296 by omega), hy, Option.bind_some, less_eq, beq_eq]
            have hs := cmpS_swap (l[i - 1]'(by omega)).f0 l[i].f0
            have hr := cmpS_range (l[i - 1]'(by omega)).f0 l[i].f0
            by_cases hc : cmpS (l[i - 1]'(by omega)).f0 l[i].f0 = -1
            · rw [if_pos hc]
              have : (decide (cmpS l[i].f0 (l[i - 1]'(by omega)).f0 = -1) || decide (cmpS l[i].f0 (l[i - 1]'(by omega)).f0 = 0)) = false := by
                rw [Bool.eq_false_iff]; simp only [ne_eq, Bool.or_eq_true, decide_eq_true_eq]; omega
              rw [this]; rfl
            · rw [if_neg hc]
              have : (decide (cmpS l[i].f0 (l[i - 1]'(by omega)).f0 = -1) || decide (cmpS l[i].f0 (l[i - 1]'(by omega)).f0 = 0)) = true := by
                simp only [Bool.or_eq_true, decide_eq_true_eq]; omega
              rw [this]; rfl
        · have e2 : (valueE l[i].f1 != 0) = true := by simpa using hv
          rw [if_pos hv]
          simp only [e2, cond_true]
theorem refRight_eq (l : List S49) : tocsinref04_Right l = some (rightE l) := by
  unfold tocsinref04_Right rightE
  by_cases hl : l.length > 16
  · simp [hl, show decide ((l.length : Int) > 16) = true from decide_eq_true (by omega)]
  · rw [show decide ((l.length : Int) > 16) = false from decide_eq_false (by omega), if_neg hl]
    simp only [cond_false]
    rw [up_find (n := l.length) (faultAt l) (fun i hi => ?_) ?_]
    · simp only [Option.bind_some]
      cases (List.range l.length).findSome? (faultAt l) <;> rfl
    · unfold tocsinref04_Right_l18
      rw [show decide ((l.length : Int) < (l.length : Int)) = false from decide_eq_false (by omega)]
      rfl
    · unfold tocsinref04_Right_l18 faultAt
      have hx : l[i]? = some l[i] := List.getElem?_eq_getElem hi
      rw [show decide ((i : Int) < (l.length : Int)) = true from decide_eq_true (by omega)]
      simp only [cond_true, ix_nat, hx, Option.bind_some, refOne_eq]
      by_cases hv : oneE l[i] = 0
      · have e2 : (oneE l[i] != 0) = false := by simp [hv]
        rw [if_neg (by simpa using hv)]
        simp only [e2, cond_false, wrap_up (show i < 4294967296 by omega)]
        by_cases hi0 : i = 0
        · subst hi0
          simp
        · have e3 : decide ((i : Int) > 0) = true := decide_eq_true (by omega)
          have hy : l[i - 1]? = some (l[i - 1]'(by omega)) := List.getElem?_eq_getElem (by omega)
          rw [if_neg hi0]
          simp only [e3, cond_true, ix_prev (show 0 < i by omega) (show i < 4294967296 by omega), hy, Option.bind_some, less_eq]
          by_cases hc : cmpS (l[i - 1]'(by omega)).f0 l[i].f0 = -1
          · rw [if_pos hc, decide_eq_true hc]; rfl
          · rw [if_neg hc, decide_eq_false hc]; rfl
      · have e2 : (oneE l[i] != 0) = true := by simpa using hv
        rw [if_pos hv]
        simp only [e2, cond_true]
end Go.Proofs.YtnlkfajnaelnnaaGreatDoor

/- Plain laws: what a right label set is made of. -/
set_option linter.unusedVariables false
set_option maxRecDepth 100000
namespace Go.Proofs.YtnlkfajnaelnnaaGreatDoor
open Go.GB Go.Lib
theorem faultAt_ne {l : List S49} {i : Nat} {v : Int × Int} (h : faultAt l i = some v) : v.1 ≠ 0 := by
  unfold faultAt at h
  split at h
  · cases h
  · rename_i x _
    by_cases h1 : oneE x ≠ 0
    · rw [if_pos h1] at h; cases h; exact h1
    · rw [if_neg h1] at h
      split at h
      · cases h
      · split at h
        · cases h
        · split at h
          · cases h
          · cases h; show (3 : Int) ≠ 0; decide
theorem right_none {l : List S49} (h : (rightE l).1 = 0) : l.length ≤ 16 ∧ ∀ i, i < l.length → faultAt l i = none := by
  unfold rightE at h
  split at h
  · cases h
  · refine ⟨by omega, fun i hi => ?_⟩
    cases hf : (List.range l.length).findSome? (faultAt l) with
    | some v =>
      rw [hf] at h
      obtain ⟨j, _, hj⟩ := List.exists_of_findSome?_eq_some hf
      exact absurd h (faultAt_ne hj)
    | none => rw [List.findSome?_eq_none_iff] at hf; exact hf i (List.mem_range.2 hi)
theorem one_parts {x : S49} (h : oneE x = 0) : namedB x.f0 64 false = true ∧ x.f1.size ≠ 0 ∧ x.f1.size ≤ 256 ∧ validD x.f1.data.toList = true := by
  unfold oneE at h
  cases hn : namedB x.f0 64 false with
  | false => rw [hn] at h; cases h
  | true =>
    rw [hn] at h
    simp only [if_true] at h
    unfold valueE at h
    by_cases h0 : x.f1.size = 0
    · rw [if_pos h0] at h; cases h
    · rw [if_neg h0] at h
      by_cases h1 : x.f1.size > 256
      · rw [if_pos h1] at h; cases h
      · rw [if_neg h1] at h
        cases hv : validD x.f1.data.toList with
        | false => rw [hv] at h; cases h
        | true => exact ⟨rfl, h0, by omega, rfl⟩
theorem named_valid {s : ByteArray} {most : Nat} {c : Bool} (h : namedB s most c = true) : s.size ≤ most ∧ s.size ≠ 0 ∧ validD s.data.toList = true := by
  unfold namedB at h
  simp only [Bool.and_eq_true, decide_eq_true_eq, List.all_eq_true, Bool.not_eq_true'] at h
  obtain ⟨h0, h1, _, h2⟩ := h
  refine ⟨h1, h0, ?_⟩
  have := validD_ascii s.data.toList.length s.data.toList (fun b hb => by
    rw [List.take_length] at hb
    obtain ⟨i, hi, rfl⟩ := List.getElem_of_mem hb
    have h3 := h2 i (List.mem_range.2 (by rw [← size_list]; exact hi))
    have e : bat s i = (s.data.toList[i]).toNat := by
      unfold bat
      rw [List.getD_eq_getElem?_getD, List.getElem?_eq_getElem hi]; rfl
    rw [e] at h3
    unfold labels_letter labels_digit at h3
    simp only [Bool.or_eq_true, Bool.and_eq_true, decide_eq_true_eq, beq_iff_eq] at h3
    omega)
  rw [this, List.drop_length]
  rfl
theorem right_parts {l : List S49} (h : (rightE l).1 = 0) : l.length ≤ 16 ∧ ∀ x ∈ l, oneE x = 0 := by
  obtain ⟨h1, h2⟩ := right_none h
  refine ⟨h1, fun x hx => ?_⟩
  obtain ⟨i, hi, rfl⟩ := List.getElem_of_mem hx
  have := h2 i hi
  unfold faultAt at this
  rw [List.getElem?_eq_getElem hi] at this
  simp only at this
  by_cases h0 : oneE l[i] ≠ 0
  · rw [if_pos h0] at this; cases this
  · simpa using h0
end Go.Proofs.YtnlkfajnaelnnaaGreatDoor

/- Plain laws: label sets compared. -/
set_option linter.unusedVariables false
set_option maxRecDepth 100000
namespace Go.Proofs.YtnlkfajnaelnnaaGreatDoor
open Go.GB Go.Lib
end Go.Proofs.YtnlkfajnaelnnaaGreatDoor

/- Plain laws, base: words of bits; numbers in few bytes. -/
set_option linter.unusedVariables false
namespace Go.GB
theorem shr_nat (k : IntKind) (a n : Nat) (hn : n ≤ k.bits) : shr k (a : Int) (n : Int) = ((a / 2 ^ n : Nat) : Int) := by
  unfold shr
  rw [Int.toNat_natCast, Nat.min_eq_left hn, Int.fdiv_eq_ediv_of_nonneg _ (by exact Int.pow_nonneg (by omega))]
  norm_cast
def uvF : Nat → Nat → List Int
  | 0, _ => []
  | f + 1, n => if n < 128 then [(n : Int)] else ((n % 128 + 128 : Nat) : Int) :: uvF f (n / 128)
/-- A number in few bytes. -/
def uv (n : Nat) : List Int := uvF 10 n
theorem uvF_len : ∀ f n : Nat, (uvF f n).length ≤ f
  | 0, _ => by simp [uvF]
  | f + 1, n => by
    unfold uvF
    split
    · simp
    · have := uvF_len f (n / 128); simp; omega
theorem uv_len (n : Nat) : (uv n).length ≤ 10 := uvF_len 10 n
/-- A loop that lays a number's bytes. -/
theorem putu_loop {body : Int × List Int → Option ((Int × List Int) ⊕ (Int × List Int))} (h : ∀ (n : Nat) (acc : List Int), n < 18446744073709551616 → body ((n : Int), acc) = if n < 128 then some (.inr ((n : Int), acc)) else Option.bind (app acc [((n % 128 + 128 : Nat) : Int)]) fun z => some (.inl (((n / 128 : Nat) : Int), z))) :
    ∀ (f n : Nat) (acc : List Int), n < 128 ^ f → n < 18446744073709551616 → acc.length + f ≤ 2147483648 → 0 < f → ∃ (m : Nat) (acc' : List Int), m < 128 ∧ loopO body ((n : Int), acc) = some ((m : Int), acc') ∧ acc' ++ [(m : Int)] = acc ++ uvF f n ∧ acc'.length + 1 ≤ acc.length + f := by
  intro f
  induction f with
  | zero => intro n acc _ _ _ h0; omega
  | succ f ih =>
    intro n acc hn hn2 hl _
    have hb := h n acc hn2
    by_cases hlt : n < 128
    · rw [if_pos hlt] at hb
      exact ⟨n, acc, hlt, loopO_done hb, by unfold uvF; rw [if_pos hlt], by omega⟩
    · rw [if_neg hlt] at hb
      have ha : app acc [((n % 128 + 128 : Nat) : Int)] = some (acc ++ [((n % 128 + 128 : Nat) : Int)]) := by unfold app maxLen'; rw [if_pos (by simp; omega)]
      rw [ha, Option.bind_some] at hb
      have hf : 0 < f := by
        rcases Nat.eq_zero_or_pos f with rfl | h0
        · simp at hn; omega
        · exact h0
      obtain ⟨m, acc', h1, h2, h3, h4⟩ := ih (n / 128) (acc ++ [((n % 128 + 128 : Nat) : Int)]) (by rw [Nat.pow_succ] at hn; omega) (by omega) (by simp; omega) hf
      refine ⟨m, acc', h1, by rw [loopO_step hb]; exact h2, ?_, by simp at h4; omega⟩
      rw [h3]
      conv => rhs; unfold uvF
      rw [if_neg hlt]; simp
theorem app_eq {α : Type} {xs ys : List α} (h : xs.length + ys.length ≤ 2147483648) : app xs ys = some (xs ++ ys) := by unfold app maxLen'; rw [if_pos (by simpa using h)]
theorem sb_eq {s : ByteArray} (h : s.size ≤ 2147483648) : sb s = some (bytesOf s) := by unfold sb maxLen'; rw [if_pos h]
def Bytes (l : List Int) : Prop := ∀ x ∈ l, 0 ≤ x ∧ x < 256
theorem ofBytes_toList (l : List Int) : (ofBytes l).data.toList = l.map (fun n => UInt8.ofNat n.toNat) := by
  unfold ofBytes
  have key : ∀ (l : List Int) (r : ByteArray), (l.foldl (fun r n => r.push (UInt8.ofNat n.toNat)) r).data.toList = r.data.toList ++ l.map (fun n => UInt8.ofNat n.toNat) := by
    intro l
    induction l with
    | nil => intro r; simp
    | cons x l ih => intro r; rw [List.foldl_cons, ih]; simp [ByteArray.push]
  rw [key]; simp
theorem ofBytes_size (l : List Int) : (ofBytes l).size = l.length := by rw [← size_list, ofBytes_toList, List.length_map]
end Go.GB

/- Plain laws: numbers and texts in bytes: the program's are the document's. -/
set_option linter.unusedVariables false
set_option maxRecDepth 100000
namespace Go.Proofs.YtnlkfajnaelnnaaGreatDoor
open Go.GB Go.Lib
theorem joined_eq {a b : List Int} (h : a.length + b.length ≤ 2147483648) : vint_joined a b = some (a ++ b) := by
  unfold vint_joined
  have e : mkrow (0 : Int) 0 (IntKind.wrap .i64 ((a.length : Int) + (b.length : Int))) = some [] := by
    unfold mkrow
    rw [wrap64 (by omega) (by omega), if_pos ⟨by omega, by omega, by omega⟩]; rfl
  rw [e]
  simp only [Option.bind_some]
  rw [app_eq (by simp; omega)]
  simp only [Option.bind_some, List.nil_append]
  rw [app_eq h]; rfl
theorem refJoined_eq {a b : List Int} (h : a.length + b.length ≤ 2147483648) : tocsinref01_joined a b = some (a ++ b) := by
  unfold tocsinref01_joined
  rw [app_eq (by simp; omega)]
  simp only [Option.bind_some, List.nil_append]
  rw [app_eq h]; rfl
theorem PutU_eq {a : List Int} {n : Nat} (hn : n < 18446744073709551616) (h : a.length + 10 ≤ 2147483648) : vint_PutU a (n : Int) = some (a ++ uv n) := by
  unfold vint_PutU
  obtain ⟨m, acc, h1, h2, h3, h4⟩ := putu_loop (body := vint_PutU_l28) (fun n acc hn => by
    unfold vint_PutU_l28
    by_cases hlt : n < 128
    · rw [if_pos hlt, show decide ((((n : Nat) : Int), acc).1 ≥ 128) = false from decide_eq_false (by show ¬ ((n : Int) ≥ 128); omega)]; rfl
    · rw [if_neg hlt, show decide ((((n : Nat) : Int), acc).1 ≥ 128) = true from decide_eq_true (by show (n : Int) ≥ 128; omega)]
      have e1 : bitOr .u8 (IntKind.wrap .u8 (n : Int)) 128 = ((n % 128 + 128 : Nat) : Int) := by
        have := fin_and (P := fun c => bitOr .u8 ((c : Nat) : Int) 128 = ((c % 128 + 128 : Nat) : Int)) or128 (n := n % 256) (by omega)
        rw [wrapU8_eq, show (n : Int) % 256 = ((n % 256 : Nat) : Int) by omega, this]; omega
      have e2 : shr .u64 (n : Int) 7 = ((n / 128 : Nat) : Int) := shr_nat .u64 n 7 (by decide)
      simp only [cond_true, e1, e2]) 10 n [] (by omega) hn (by simp) (by omega)
  rw [show ((n : Int), ([] : List Int)) = ((n : Int), []) from rfl, h2]
  simp only [Option.bind_some]
  rw [wrapU8 (by omega) (by omega), app_eq (by simp at h4 ⊢; omega), h3]
  simp only [Option.bind_some, List.nil_append]
  rw [joined_eq (by have := uv_len n; unfold uv at this; omega)]
  rfl
theorem refPutU_eq {a : List Int} {n : Nat} (hn : n < 18446744073709551616) (h : a.length + 10 ≤ 2147483648) : tocsinref01_PutU a (n : Int) = some (a ++ uv n) := by
  unfold tocsinref01_PutU
  obtain ⟨m, acc, h1, h2, h3, h4⟩ := putu_loop (body := tocsinref01_PutU_l28) (fun n acc hn => by
    unfold tocsinref01_PutU_l28
    by_cases hlt : n < 128
    · rw [if_pos hlt, show decide ((((n : Nat) : Int), acc).1 ≥ 128) = false from decide_eq_false (by show ¬ ((n : Int) ≥ 128); omega)]; rfl
    · rw [if_neg hlt, show decide ((((n : Nat) : Int), acc).1 ≥ 128) = true from decide_eq_true (by show (n : Int) ≥ 128; omega)]
      have e0 : Int.tmod (n : Int) 128 = ((n % 128 : Nat) : Int) := by rw [Int.tmod_eq_emod_of_nonneg (by omega)]; omega
      have e1 : IntKind.wrap .u8 (IntKind.wrap .u8 (Int.tmod (n : Int) 128) + 128) = ((n % 128 + 128 : Nat) : Int) := by
        rw [e0, wrapU8 (x := ((n % 128 : Nat) : Int)) (by omega) (by omega), wrapU8 (by omega) (by omega)]; omega
      have e2 : IntKind.wrap .u64 (Int.tdiv (n : Int) 128) = ((n / 128 : Nat) : Int) := by
        rw [Int.tdiv_eq_ediv_of_nonneg (by omega), show (n : Int) / 128 = ((n / 128 : Nat) : Int) by omega, wrapU64 (by omega) (by omega)]
      simp only [cond_true, e1, e2]) 10 n [] (by omega) hn (by simp) (by omega)
  rw [show ((n : Int), ([] : List Int)) = ((n : Int), []) from rfl, h2]
  simp only [Option.bind_some]
  rw [wrapU8 (by omega) (by omega), app_eq (by simp at h4 ⊢; omega), h3]
  simp only [Option.bind_some, List.nil_append]
  rw [refJoined_eq (by have := uv_len n; unfold uv at this; omega)]
  rfl
theorem PutText_eq {a : List Int} {s : ByteArray} (h : a.length + 10 + s.size ≤ 2147483648) : vint_PutText a s = some (a ++ uv s.size ++ bytesOf s) := by
  unfold vint_PutText
  rw [wrapU64 (by omega) (by omega), PutU_eq (by omega) (by omega)]
  simp only [Option.bind_some]
  rw [sb_eq (by omega)]
  simp only [Option.bind_some]
  rw [joined_eq (by have := uv_len s.size; simp [bytesOf_length]; omega)]
  rfl
theorem refPutText_eq {a : List Int} {s : ByteArray} (h : a.length + 10 + s.size ≤ 2147483648) : tocsinref01_PutText a s = some (a ++ uv s.size ++ bytesOf s) := by
  unfold tocsinref01_PutText
  rw [wrapU64 (by omega) (by omega), refPutU_eq (by omega) (by omega)]
  simp only [Option.bind_some]
  rw [sb_eq (by omega)]
  simp only [Option.bind_some]
  rw [refJoined_eq (by have := uv_len s.size; simp [bytesOf_length]; omega)]
  rfl
/-- What a read of a number leaves. -/
def UOk (len at_ : Nat) (v : Int × Int × Int) : Prop := (v.2.2 = 0 ∧ (at_ : Int) < v.2.1 ∧ v.2.1 ≤ (len : Int) ∧ 0 ≤ v.1 ∧ v.1 < 18446744073709551616) ∨ (v.2.2 ≠ 0 ∧ v.1 = 0 ∧ v.2.1 = 0)
theorem bitOr64_range (a b : Int) : 0 ≤ bitOr .u64 a b ∧ bitOr .u64 a b < 18446744073709551616 := by
  unfold bitOr
  rw [wrapU64_eq]
  omega
theorem u_body {b : List Int} (hb : Bytes b) (hl : b.length ≤ 2147483648) {p i : Nat} (hp : p ≤ b.length) (hi : i ≤ 9) (acc : Int) :
    vint_U_l24 b (p : Int) (acc, (i : Int)) = tocsinref01_U_l24 b (p : Int) (acc, (i : Int)) ∧
    ((∃ acc', vint_U_l24 b (p : Int) (acc, (i : Int)) = some (.inl (acc', ((i + 1 : Nat) : Int))) ∧ i < 9) ∨ ∃ v, vint_U_l24 b (p : Int) (acc, (i : Int)) = some (.inr (.inr v)) ∧ UOk b.length p v) := by
  unfold vint_U_l24 tocsinref01_U_l24
  simp only
  have w1 : IntKind.wrap .i64 ((p : Int) + (i : Int)) = ((p + i : Nat) : Int) := by rw [wrap64 (by omega) (by omega)]; omega
  have w2 : IntKind.wrap .i64 ((b.length : Int) - (p : Int)) = (b.length : Int) - (p : Int) := wrap64 (by omega) (by omega)
  have w3 : IntKind.wrap .i64 (7 * (i : Int)) = 7 * (i : Int) := wrap64 (by omega) (by omega)
  have w4 : IntKind.wrap .u64 (7 * (i : Int)) = 7 * (i : Int) := wrapU64 (by omega) (by omega)
  have w5 : IntKind.wrap .i64 (((p + i : Nat) : Int) + 1) = ((p + i + 1 : Nat) : Int) := by rw [wrap64 (by omega) (by omega)]; omega
  have w6 : IntKind.wrap .i64 ((i : Int) + 1) = ((i + 1 : Nat) : Int) := wrap_up (by omega)
  rw [show decide ((i : Int) < 10) = true from decide_eq_true (by omega), w1, w2, w3, w4, w5, w6]
  simp only [cond_true]
  by_cases hlt : p + i < b.length
  · have d1 : decide (((p + i : Nat) : Int) ≥ (b.length : Int)) = false := decide_eq_false (by omega)
    have d2 : decide ((i : Int) ≥ (b.length : Int) - (p : Int)) = false := decide_eq_false (by omega)
    have hx : ix b ((p + i : Nat) : Int) = some b[p + i] := by rw [ix_nat, List.getElem?_eq_getElem hlt]
    obtain ⟨h0, h1⟩ := hb b[p + i] (List.getElem_mem hlt)
    obtain ⟨c, hc⟩ : ∃ c : Nat, b[p + i] = (c : Int) := ⟨b[p + i].toNat, by omega⟩
    simp only [d1, d2, cond_false, hx, Option.bind_some]
    rw [hc] at h0 h1 ⊢
    have hc' : c < 256 := by omega
    have e1 : bitAnd .u8 (c : Int) 127 = Int.tmod (c : Int) 128 := by
      rw [fin_and (P := fun n => bitAnd .u8 ((n : Nat) : Int) 127 = ((n % 128 : Nat) : Int)) and127 hc', Int.tmod_eq_emod_of_nonneg (by omega)]; omega
    have e2 : ∀ x, shlx .u64 x (7 * (i : Int)) = some (shl .u64 x (7 * (i : Int))) := fun x => by unfold shlx; rw [if_pos (by omega)]
    simp only [e1, e2, Option.bind_some]
    cases h9 : (((i : Int) == 9) && decide ((c : Int) > 1)) with
    | true => exact ⟨rfl, .inr ⟨_, rfl, .inr ⟨by decide, rfl, rfl⟩⟩⟩
    | false =>
      simp only [cond_false]
      have hr := bitOr64_range acc (shl .u64 (IntKind.wrap .u64 (Int.tmod (c : Int) 128)) (7 * (i : Int)))
      by_cases hs : c < 128
      · have d3 : decide ((c : Int) < 128) = true := decide_eq_true (by omega)
        simp only [d3, Bool.true_and, cond_true]
        cases hz : (((c : Int) == 0) && decide ((i : Int) > 0)) with
        | true => exact ⟨trivial, .inr ⟨_, rfl, .inr ⟨by decide, rfl, rfl⟩⟩⟩
        | false => exact ⟨trivial, .inr ⟨_, rfl, .inl ⟨rfl, by show (p : Int) < ((p + i + 1 : Nat) : Int); omega, by show ((p + i + 1 : Nat) : Int) ≤ (b.length : Int); omega, hr.1, hr.2⟩⟩⟩
      · have d3 : decide ((c : Int) < 128) = false := decide_eq_false (by omega)
        simp only [d3, Bool.false_and, cond_false]
        refine ⟨trivial, .inl ⟨_, rfl, ?_⟩⟩
        rw [Bool.and_eq_false_iff] at h9
        rcases h9 with h9 | h9
        · have : (i : Int) ≠ 9 := by simpa using h9
          omega
        · have := of_decide_eq_false h9; omega
  · have d1 : decide (((p + i : Nat) : Int) ≥ (b.length : Int)) = true := decide_eq_true (by omega)
    have d2 : decide ((i : Int) ≥ (b.length : Int) - (p : Int)) = true := decide_eq_true (by omega)
    simp only [d1, d2, cond_true]
    exact ⟨trivial, .inr ⟨_, rfl, .inr ⟨by decide, rfl, rfl⟩⟩⟩
theorem u_loop {b : List Int} (hb : Bytes b) (hl : b.length ≤ 2147483648) {p : Nat} (hp : p ≤ b.length) : ∀ (d i : Nat) (acc : Int), 9 - i = d → i ≤ 9 →
    ∃ v, loopO (vint_U_l24 b (p : Int)) (acc, (i : Int)) = some (.inr v) ∧ loopO (tocsinref01_U_l24 b (p : Int)) (acc, (i : Int)) = some (.inr v) ∧ UOk b.length p v := by
  intro d
  induction d with
  | zero =>
    intro i acc hd hi
    obtain ⟨h1, h2⟩ := u_body hb hl hp hi acc
    rcases h2 with ⟨acc', _, h3⟩ | ⟨v, h3, h4⟩
    · omega
    · exact ⟨v, loopO_done h3, loopO_done (by rw [← h1]; exact h3), h4⟩
  | succ d ih =>
    intro i acc hd hi
    obtain ⟨h1, h2⟩ := u_body hb hl hp hi acc
    rcases h2 with ⟨acc', h3, h4⟩ | ⟨v, h3, h4⟩
    · obtain ⟨v, h5, h6, h7⟩ := ih (i + 1) acc' (by omega) (by omega)
      exact ⟨v, by rw [loopO_step h3]; exact h5, by rw [loopO_step (by rw [← h1]; exact h3)]; exact h6, h7⟩
    · exact ⟨v, loopO_done h3, loopO_done (by rw [← h1]; exact h3), h4⟩
theorem U_both {b : List Int} (hb : Bytes b) (hl : b.length ≤ 2147483648) (at_ : Int) : ∃ v, vint_U b at_ = some v ∧ tocsinref01_U b at_ = some v ∧ UOk b.length at_.toNat v := by
  unfold vint_U tocsinref01_U
  by_cases h : at_ < 0 ∨ at_ > (b.length : Int)
  · have : ((decide (at_ < 0)) || (decide (at_ > (b.length : Int)))) = true := by simpa using h
    rw [this]
    exact ⟨_, rfl, rfl, .inr ⟨by decide, rfl, rfl⟩⟩
  · have : ((decide (at_ < 0)) || (decide (at_ > (b.length : Int)))) = false := by rw [Bool.eq_false_iff]; simpa using h
    rw [this]
    simp only [cond_false]
    obtain ⟨p, rfl⟩ : ∃ p : Nat, at_ = (p : Int) := ⟨at_.toNat, by omega⟩
    obtain ⟨v, h1, h2, h3⟩ := u_loop hb hl (p := p) (by omega) 9 0 0 rfl (by omega)
    rw [show ((0 : Nat) : Int) = 0 from rfl] at h1 h2
    rw [h1, h2]
    exact ⟨v, rfl, rfl, by rw [Int.toNat_natCast]; exact h3⟩
/-- What a read of a text leaves. -/
def TOk (len at_ : Nat) (v : ByteArray × Int × Int) : Prop := (v.2.2 = 0 ∧ (at_ : Int) < v.2.1 ∧ v.2.1 ≤ (len : Int) ∧ (v.1.size : Int) + at_ < v.2.1) ∨ (v.2.2 ≠ 0 ∧ v.1 = ⟨#[]⟩ ∧ v.2.1 = 0)
theorem lx_eq {α : Type} {xs : List α} {l r : Nat} (h1 : l ≤ r) (h2 : r ≤ xs.length) : lx xs (l : Int) (r : Int) = some ((xs.take r).drop l) := by
  unfold lx
  rw [if_pos ⟨by omega, by omega, by omega⟩, Int.toNat_natCast, Int.toNat_natCast]
theorem Text_both {b : List Int} (hb : Bytes b) (hl : b.length ≤ 2147483648) (at_ most : Int) (hm : most < 9223372036854775808) : ∃ v, vint_Text b at_ most = some v ∧ tocsinref01_Text b at_ most = some v ∧ TOk b.length at_.toNat v := by
  unfold vint_Text tocsinref01_Text
  by_cases h : (at_ < 0 ∨ at_ > (b.length : Int)) ∨ most < 0
  · have : (((decide (at_ < 0)) || (decide (at_ > (b.length : Int)))) || (decide (most < 0))) = true := by simpa using h
    rw [this]
    exact ⟨_, rfl, rfl, .inr ⟨by decide, rfl, rfl⟩⟩
  · have : (((decide (at_ < 0)) || (decide (at_ > (b.length : Int)))) || (decide (most < 0))) = false := by rw [Bool.eq_false_iff]; simpa using h
    rw [this]
    simp only [cond_false]
    obtain ⟨⟨n, e, er⟩, h1, h2, h3⟩ := U_both hb hl at_
    rw [h1, h2]
    simp only [Option.bind_some]
    rcases h3 with ⟨h4, h5, h6, h7, h8⟩ | ⟨h4, h5, h6⟩
    · simp only at h4 h5 h6 h7 h8
      subst h4
      simp only [show ((0 : Int) != 0) = false from rfl, cond_false]
      rw [wrapU64 (x := most) (by omega) (by omega), wrap64 (x := (b.length : Int) - e) (by omega) (by omega), wrapU64 (by omega) (by omega)]
      by_cases c1 : n > most
      · rw [decide_eq_true c1]; exact ⟨_, rfl, rfl, .inr ⟨by decide, rfl, rfl⟩⟩
      · rw [decide_eq_false c1]
        simp only [cond_false]
        by_cases c2 : n > (b.length : Int) - e
        · rw [decide_eq_true c2]; exact ⟨_, rfl, rfl, .inr ⟨by decide, rfl, rfl⟩⟩
        · rw [decide_eq_false c2]
          simp only [cond_false]
          rw [wrap64 (x := n) (by omega) (by omega), wrap64 (x := e + n) (by omega) (by omega)]
          obtain ⟨e', rfl⟩ : ∃ e' : Nat, e = (e' : Int) := ⟨e.toNat, by omega⟩
          obtain ⟨n', rfl⟩ : ∃ n' : Nat, n = (n' : Int) := ⟨n.toNat, by omega⟩
          have hx := lx_eq (xs := b) (l := e') (r := e' + n') (by omega) (by omega)
          rw [show ((e' : Int) + (n' : Int)) = ((e' + n' : Nat) : Int) by omega, hx]
          simp only [Option.bind_some]
          have hsz : (ofBytes ((b.take (e' + n')).drop e')).size = n' := by rw [ofBytes_size, List.length_drop, List.length_take]; omega
          rw [valid_eq (by omega), refUtf8_eq (by omega)]
          simp only [Option.bind_some]
          cases validD (ofBytes ((b.take (e' + n')).drop e')).data.toList with
          | false => exact ⟨_, rfl, rfl, .inr ⟨by decide, rfl, rfl⟩⟩
          | true => exact ⟨_, rfl, rfl, .inl ⟨rfl, by show ((at_.toNat : Nat) : Int) < ((e' + n' : Nat) : Int); omega, by show ((e' + n' : Nat) : Int) ≤ (b.length : Int); omega, by show ((ofBytes ((b.take (e' + n')).drop e')).size : Int) + at_.toNat < ((e' + n' : Nat) : Int); rw [hsz]; omega⟩⟩
    · simp only at h4 h5 h6
      rw [show (er != 0) = true by simpa using h4]
      exact ⟨_, rfl, rfl, .inr ⟨h4, rfl, rfl⟩⟩
end Go.Proofs.YtnlkfajnaelnnaaGreatDoor

/- Plain laws: what is written in few bytes is read back. -/
set_option linter.unusedVariables false
set_option maxRecDepth 100000
namespace Go.Proofs.YtnlkfajnaelnnaaGreatDoor
open Go.GB Go.Lib
end Go.Proofs.YtnlkfajnaelnnaaGreatDoor

/- Plain laws: label sets in bytes. -/
set_option linter.unusedVariables false
set_option maxRecDepth 100000
namespace Go.Proofs.YtnlkfajnaelnnaaGreatDoor
open Go.GB Go.Lib
def encLab (x : S49) : List Int := (uv x.f0.size ++ bytesOf x.f0) ++ (uv x.f1.size ++ bytesOf x.f1)
def encLabs (l : List S49) : List Int := l.flatMap encLab
def encL (l : List S49) : List Int := uv l.length ++ encLabs l
theorem encLab_len {x : S49} (h : oneE x = 0) : (encLab x).length ≤ 340 := by
  obtain ⟨h1, _, h2, _⟩ := one_parts h
  have h3 := (named_valid h1).1
  have := uv_len x.f0.size
  have := uv_len x.f1.size
  simp [encLab, bytesOf_length]
  omega
theorem encLabs_len : ∀ {l : List S49}, (∀ x ∈ l, oneE x = 0) → (encLabs l).length ≤ 340 * l.length
  | [], _ => by simp [encLabs]
  | x :: r, h => by
    have h1 := encLab_len (h x (by simp))
    have h2 := encLabs_len (l := r) (fun y hy => h y (by simp [hy]))
    unfold encLabs at h2 ⊢
    simp only [List.flatMap_cons, List.length_append, List.length_cons]
    omega
theorem encL_len {l : List S49} (h : (rightE l).1 = 0) : (encL l).length ≤ 5450 := by
  obtain ⟨h1, h2⟩ := right_parts h
  have := encLabs_len h2
  have := uv_len l.length
  simp only [encL, List.length_append]
  omega
theorem encLabs_take {l : List S49} {i : Nat} (hi : i < l.length) : encLabs (l.take (i + 1)) = encLabs (l.take i) ++ encLab l[i] := by
  unfold encLabs
  rw [List.take_add_one, List.getElem?_eq_getElem hi]
  simp only [Option.toList_some, List.flatMap_append, List.flatMap_cons, List.flatMap_nil, List.append_nil]
theorem Put_eq {a : List Int} {l : List S49} (ha : a.length ≤ 2147470000) : labels_Put a l = some (if (rightE l).1 = 0 then a ++ encL l else [], (rightE l).1) := by
  unfold labels_Put labels_right
  rw [Right_eq]
  simp only [Option.bind_some]
  by_cases h : (rightE l).1 = 0
  · obtain ⟨h1, h2⟩ := right_parts h
    rw [if_pos h, show ((rightE l).1 != 0) = false by simp [h]]
    simp only [cond_false]
    rw [wrapU64 (by omega) (by omega), PutU_eq (by omega) (by omega)]
    simp only [Option.bind_some]
    have hl := uv_len l.length
    have hloop := up_inv (body := labels_Put_l40 l) (fun i => (a ++ uv l.length ++ encLabs (l.take i), (i : Int))) (n := l.length) (r := a ++ uv l.length ++ encLabs l) (fun i hi => by
      unfold labels_Put_l40
      have hx : ix l (i : Int) = some l[i] := by rw [ix_nat, List.getElem?_eq_getElem hi]
      have h3 := encLabs_len (l := l.take i) (fun x hx => h2 x (List.mem_of_mem_take hx))
      have h4 := h2 l[i] (List.getElem_mem hi)
      obtain ⟨k1, _, k2, _⟩ := one_parts h4
      have k3 := (named_valid k1).1
      have k4 := uv_len l[i].f0.size
      have hti : (l.take i).length ≤ 16 := by rw [List.length_take]; omega
      rw [show decide ((a ++ uv l.length ++ encLabs (l.take i), (i : Int)).2 < (l.length : Int)) = true from decide_eq_true (by show (i : Int) < _; omega)]
      simp only [cond_true, hx, Option.bind_some]
      rw [PutText_eq (by simp only [List.length_append]; omega)]
      simp only [Option.bind_some]
      rw [PutText_eq (by simp only [List.length_append, bytesOf_length]; omega)]
      simp only [Option.bind_some, wrap_up (show i < 4294967296 by omega)]
      rw [encLabs_take hi]
      simp [encLab]) (by
      unfold labels_Put_l40
      rw [show decide ((a ++ uv l.length ++ encLabs (l.take l.length), (l.length : Int)).2 < (l.length : Int)) = false from decide_eq_false (by show ¬ ((l.length : Int) < _); omega)]
      rw [List.take_length]; rfl) 0 (Nat.zero_le _)
    simp only [List.take_zero, encLabs, List.flatMap_nil, List.append_nil, Int.ofNat_zero, Int.natCast_zero] at hloop
    rw [hloop]
    simp [h, encL, encLabs]
  · rw [if_neg h, show ((rightE l).1 != 0) = true by simpa using h]
    rfl
theorem refPut_eq {a : List Int} {l : List S49} (ha : a.length ≤ 2147470000) : tocsinref04_Put a l = some (if (rightE l).1 = 0 then a ++ encL l else [], (rightE l).1) := by
  unfold tocsinref04_Put
  rw [refRight_eq]
  simp only [Option.bind_some]
  by_cases h : (rightE l).1 = 0
  · obtain ⟨h1, h2⟩ := right_parts h
    rw [if_pos h, show ((rightE l).1 != 0) = false by simp [h]]
    simp only [cond_false]
    rw [wrapU64 (by omega) (by omega), refPutU_eq (by omega) (by omega)]
    simp only [Option.bind_some]
    have hl := uv_len l.length
    have hloop := up_inv (body := tocsinref04_Put_l40 l) (fun i => (a ++ uv l.length ++ encLabs (l.take i), (i : Int))) (n := l.length) (r := a ++ uv l.length ++ encLabs l) (fun i hi => by
      unfold tocsinref04_Put_l40
      have hx : ix l (i : Int) = some l[i] := by rw [ix_nat, List.getElem?_eq_getElem hi]
      have h3 := encLabs_len (l := l.take i) (fun x hx => h2 x (List.mem_of_mem_take hx))
      have h4 := h2 l[i] (List.getElem_mem hi)
      obtain ⟨k1, _, k2, _⟩ := one_parts h4
      have k3 := (named_valid k1).1
      have k4 := uv_len l[i].f0.size
      have hti : (l.take i).length ≤ 16 := by rw [List.length_take]; omega
      rw [show decide ((a ++ uv l.length ++ encLabs (l.take i), (i : Int)).2 < (l.length : Int)) = true from decide_eq_true (by show (i : Int) < _; omega)]
      simp only [cond_true, hx, Option.bind_some]
      rw [refPutText_eq (by simp only [List.length_append]; omega)]
      simp only [Option.bind_some]
      rw [refPutText_eq (by simp only [List.length_append, bytesOf_length]; omega)]
      simp only [Option.bind_some, wrap_up (show i < 4294967296 by omega)]
      rw [encLabs_take hi]
      simp [encLab]) (by
      unfold tocsinref04_Put_l40
      rw [show decide ((a ++ uv l.length ++ encLabs (l.take l.length), (l.length : Int)).2 < (l.length : Int)) = false from decide_eq_false (by show ¬ ((l.length : Int) < _); omega)]
      rw [List.take_length]; rfl) 0 (Nat.zero_le _)
    simp only [List.take_zero, encLabs, List.flatMap_nil, List.append_nil, Int.ofNat_zero, Int.natCast_zero] at hloop
    rw [hloop]
    simp [h, encL, encLabs]
  · rw [if_neg h, show ((rightE l).1 != 0) = true by simpa using h]
    rfl
/-! ### Reading -/
def ROk (len at_ : Nat) (v : List S49 × Int × Int) : Prop := (v.2.2 = 0 ∧ (at_ : Int) < v.2.1 ∧ v.2.1 ≤ (len : Int) ∧ v.1.length ≤ 16 ∧ (rightE v.1).1 = 0) ∨ (v.2.2 ≠ 0 ∧ v.1 = [] ∧ v.2.1 = 0)
theorem Read_both {b : List Int} (hb : Bytes b) (hl : b.length ≤ 2147483648) (at_ : Int) : ∃ v, labels_Read b at_ = some v ∧ tocsinref04_Read b at_ = some v ∧ ROk b.length at_.toNat v := by
  unfold labels_Read tocsinref04_Read
  obtain ⟨⟨n, e, er⟩, h1, h2, h3⟩ := U_both hb hl at_
  rw [h1, h2]
  simp only [Option.bind_some]
  rcases h3 with ⟨h4, h5, h6, h7, h8⟩ | ⟨h4, h5, h6⟩
  · simp only at h4 h5 h6 h7 h8
    subst h4
    simp only [show ((0 : Int) != 0) = false from rfl, cond_false]
    by_cases hn : n > 16
    · rw [decide_eq_true hn]; exact ⟨_, rfl, rfl, .inr ⟨by decide, rfl, rfl⟩⟩
    · rw [decide_eq_false hn]
      simp only [cond_false]
      have hsame : loopO (labels_Read_l33 b (n, e, 0)) (e, [], 0) = loopO (tocsinref04_Read_l33 b (n, e, 0)) (e, [], 0) := by
        refine loopO_same (fun s => ?_) _
        unfold labels_Read_l33 tocsinref04_Read_l33
        obtain ⟨v1, t1, t2, _⟩ := Text_both hb hl s.1 64 (by omega)
        rw [t1, t2]
        simp only [Option.bind_some]
        obtain ⟨v2, t3, t4, _⟩ := Text_both hb hl v1.2.1 256 (by omega)
        rw [t3, t4]
      rw [← hsame]
      have hok : Ok (loopO (labels_Read_l33 b (n, e, 0)) (e, [], 0)) (fun r => match r with
          | .inl q => (at_.toNat : Int) < q.1 ∧ q.1 ≤ (b.length : Int) ∧ q.2.length ≤ 16
          | .inr v => v.2.2 ≠ 0 ∧ v.1 = [] ∧ v.2.1 = 0) := by
        refine ok_loop (fun s => ∃ i : Nat, s.2.2 = (i : Int) ∧ (i : Int) ≤ n ∧ s.2.1.length = i ∧ (at_.toNat : Int) < s.1 ∧ s.1 ≤ (b.length : Int)) (fun s => (n - s.2.2).toNat) (fun s hs => ?_) (e, [], 0) ⟨0, rfl, h7, rfl, h5, h6⟩
        obtain ⟨i, hi, hin, hli, ha1, ha2⟩ := hs
        unfold labels_Read_l33
        refine ok_cond (fun hc => ?_) (fun hc => ok_some ⟨ha1, ha2, by show s.2.1.length ≤ 16; omega⟩)
        have hc' := of_decide_eq_true hc
        simp only at hc'
        obtain ⟨v1, t1, _, k1⟩ := Text_both hb hl s.1 64 (by omega)
        rw [t1]
        simp only [Option.bind_some]
        rcases k1 with ⟨k1, k2, k3, _⟩ | ⟨k1, k2, k3⟩
        · rw [k1]
          simp only [show ((0 : Int) != 0) = false from rfl, cond_false]
          obtain ⟨v2, t3, _, k4⟩ := Text_both hb hl v1.2.1 256 (by omega)
          rw [t3]
          simp only [Option.bind_some]
          rcases k4 with ⟨k4, k5, k6, _⟩ | ⟨k4, k5, k6⟩
          · rw [k4]
            simp only [show ((0 : Int) != 0) = false from rfl, cond_false]
            refine ok_bind (ok_app (by simp; omega)) fun z hz => ok_some ⟨⟨i + 1, ?_, by omega, by rw [hz]; simp [hli], by show _ < v2.2.1; omega, k6⟩, ?_⟩
            · show IntKind.wrap .u64 (s.2.2 + 1) = _
              rw [hi, wrapU64 (by omega) (by omega)]; omega
            · show (n - IntKind.wrap .u64 (s.2.2 + 1)).toNat < (n - s.2.2).toNat
              rw [hi, wrapU64 (by omega) (by omega)]; omega
          · rw [show (v2.2.2 != 0) = true by simpa using k4]
            exact ok_some ⟨k4, rfl, rfl⟩
        · rw [show (v1.2.2 != 0) = true by simpa using k1]
          exact ok_some ⟨k1, rfl, rfl⟩
      obtain ⟨r, hr, hq⟩ := hok
      rw [hr]
      cases r with
      | inl q =>
        simp only [Option.bind_some, labels_right, Right_eq, refRight_eq]
        by_cases hz : (rightE q.2).1 = 0
        · rw [show ((rightE q.2).1 != 0) = false by simp [hz]]
          exact ⟨_, rfl, rfl, .inl ⟨rfl, hq.1, hq.2.1, hq.2.2, hz⟩⟩
        · rw [show ((rightE q.2).1 != 0) = true by simpa using hz]
          exact ⟨_, rfl, rfl, .inr ⟨hz, rfl, rfl⟩⟩
      | inr v => exact ⟨v, rfl, rfl, .inr hq⟩
  · simp only at h4 h5 h6
    rw [show (er != 0) = true by simpa using h4]
    exact ⟨_, rfl, rfl, .inr ⟨h4, rfl, rfl⟩⟩
end Go.Proofs.YtnlkfajnaelnnaaGreatDoor

/- Stable sorting: what is a stable sort of a list, and that there is one alone. -/
set_option linter.unusedVariables false
namespace Go.GB
section
variable {α : Type}
/-- A strict weak order. -/
structure Swo (lt : α → α → Bool) : Prop where
  asymm : ∀ a b, lt a b = true → lt b a = false
  trans : ∀ a b c, lt b a = false → lt c b = false → lt c a = false
variable {lt : α → α → Bool}
theorem Swo.irrefl (h : Swo lt) (a : α) : lt a a = false := by
  cases e : lt a a with
  | false => rfl
  | true => have := h.asymm a a e; rw [e] at this; exact this
def eqv (lt : α → α → Bool) (k x : α) : Bool := !lt k x && !lt x k
theorem eqv_iff {k x : α} : eqv lt k x = true ↔ lt k x = false ∧ lt x k = false := by simp [eqv]
theorem Swo.eqv_self (h : Swo lt) (a : α) : eqv lt a a = true := by simp [eqv, h.irrefl]
def Sorted (lt : α → α → Bool) (l : List α) : Prop := l.Pairwise fun a b => lt b a = false
def FE (lt : α → α → Bool) (l m : List α) : Prop := ∀ k, l.filter (eqv lt k) = m.filter (eqv lt k)
theorem FE.refl (l : List α) : FE lt l l := fun _ => rfl
theorem FE.symm {l m : List α} (h : FE lt l m) : FE lt m l := fun k => (h k).symm
theorem FE.trans {l m n : List α} (h : FE lt l m) (h' : FE lt m n) : FE lt l n := fun k => (h k).trans (h' k)
theorem FE.append {l m l' m' : List α} (h : FE lt l m) (h' : FE lt l' m') : FE lt (l ++ l') (m ++ m') := fun k => by rw [List.filter_append, List.filter_append, h k, h' k]
theorem FE.mid {P S l m : List α} (h : FE lt l m) : FE lt (P ++ l ++ S) (P ++ m ++ S) := ((FE.refl P).append h).append (FE.refl S)
theorem FE.mem (hs : Swo lt) {l m : List α} (h : FE lt l m) {x : α} (hx : x ∈ l) : x ∈ m := by
  have : x ∈ l.filter (eqv lt x) := List.mem_filter.2 ⟨hx, hs.eqv_self x⟩
  rw [h x] at this
  exact (List.mem_filter.1 this).1
theorem FE.length (hs : Swo lt) : ∀ (n : Nat) {a b : List α}, a.length = n → FE lt a b → b.length = n
  | 0, a, b, hn, h => by
    cases b with
    | nil => rfl
    | cons y b => have := h.symm.mem hs (x := y) (by simp); rw [List.length_eq_zero_iff.1 hn] at this; cases this
  | n + 1, a, b, hn, h => by
    cases a with
    | nil => cases hn
    | cons x a =>
      have hx := h.mem hs (x := x) (by simp)
      have hne : b.filter (eqv lt x) ≠ [] := fun e => by
        have : x ∈ b.filter (eqv lt x) := List.mem_filter.2 ⟨hx, hs.eqv_self x⟩
        rw [e] at this; cases this
      -- the first of x's class in b is x
      have e1 := h x
      rw [List.filter_cons_of_pos (hs.eqv_self x)] at e1
      obtain ⟨b1, b2, hb, hb1⟩ : ∃ b1 b2, b = b1 ++ x :: b2 ∧ ∀ z ∈ b1, eqv lt x z = false := by
        clear hn h hx hne
        induction b with
        | nil => cases e1
        | cons z b ih =>
          by_cases hz : eqv lt x z = true
          · rw [List.filter_cons_of_pos hz] at e1
            simp only [List.cons.injEq] at e1
            obtain ⟨rfl, _⟩ := e1
            exact ⟨[], b, rfl, fun z hz => by cases hz⟩
          · rw [List.filter_cons_of_neg hz] at e1
            obtain ⟨b1, b2, rfl, h1⟩ := ih e1
            exact ⟨z :: b1, b2, rfl, fun w hw => by
              rcases List.mem_cons.1 hw with rfl | hw
              · simpa using hz
              · exact h1 w hw⟩
      have h2 : FE lt a (b1 ++ b2) := fun k => by
        have e2 := h k
        rw [hb, List.filter_append] at e2
        rw [List.filter_append]
        by_cases hk : eqv lt k x = true
        · rw [List.filter_cons_of_pos hk, List.filter_cons_of_pos hk] at e2
          have h0 : b1.filter (eqv lt k) = [] := by
            rw [List.filter_eq_nil_iff]
            intro z hz hkz
            have h1 := hb1 z hz
            have h3 := eqv_iff.1 hk
            have h4 := eqv_iff.1 hkz
            have : eqv lt x z = true := eqv_iff.2 ⟨hs.trans z k x h4.1 h3.2, hs.trans x k z h3.1 h4.2⟩
            rw [this] at h1; cases h1
          rw [h0] at e2 ⊢
          simpa using e2
        · rw [List.filter_cons_of_neg hk, List.filter_cons_of_neg hk] at e2
          exact e2
      have := FE.length hs n (by simpa using hn) h2
      rw [hb]; simp at this ⊢; omega
end
end Go.GB

/- Stable sorting: the library's swaps, rotations and binary searches. -/
set_option linter.unusedVariables false
namespace Go.GB
section
variable {α : Type} {cf : α → α → Int}
theorem ix_at {l A B : List α} {x : α} {i : Int} (hl : l = A ++ x :: B) (hi : i = (A.length : Int)) : ix l i = some x := by
  subst hl; subst hi; rw [ix_nat]; simp
end
end Go.GB

/- Stable sorting: the library's insertion sort and merge. -/
set_option linter.unusedVariables false
namespace Go.GB
section
variable {α : Type} {lt : α → α → Bool}
theorem Sorted.last {A : List α} {z : α} (h : Sorted lt (A ++ [z])) : ∀ a ∈ A, lt z a = false := fun a ha => (List.pairwise_append.1 h).2.2 a ha z (by simp)
theorem Sorted.head {B : List α} {y : α} (h : Sorted lt (y :: B)) : ∀ b ∈ B, lt b y = false := (List.pairwise_cons.1 h).1
theorem Sorted.left {A B : List α} (h : Sorted lt (A ++ B)) : Sorted lt A := (List.pairwise_append.1 h).1
theorem Sorted.right {A B : List α} (h : Sorted lt (A ++ B)) : Sorted lt B := (List.pairwise_append.1 h).2.1
theorem Sorted.append {A B : List α} (h : Sorted lt A) (h' : Sorted lt B) (hc : ∀ a ∈ A, ∀ b ∈ B, lt b a = false) : Sorted lt (A ++ B) := List.pairwise_append.2 ⟨h, h', hc⟩
end
section
variable {α : Type} {cf : α → α → Int}
end
end Go.GB

/- Stable sorting: the library's merge in place. -/
set_option linter.unusedVariables false
namespace Go.GB
section
variable {α : Type} {cf : α → α → Int}
end
end Go.GB

/- Stable sorting: the whole of it. -/
set_option linter.unusedVariables false
namespace Go.GB
section
variable {α : Type}
/-- Full runs of k elements, each sorted. -/
inductive Full (lt : α → α → Bool) (k : Nat) : List α → Prop
  | nil : Full lt k []
  | snoc {D x : List α} : Full lt k D → x.length = k → Sorted lt x → Full lt k (D ++ x)
/-- Runs of k elements, the last one may be shorter. -/
inductive Runs (lt : α → α → Bool) (k : Nat) : List α → Prop
  | last {x : List α} : x.length ≤ k → Sorted lt x → Runs lt k x
  | cons {x R : List α} : x.length = k → Sorted lt x → Runs lt k R → Runs lt k (x ++ R)
variable {lt : α → α → Bool} {k : Nat}
theorem Runs.sorted {R : List α} (h : Runs lt k R) (hk : R.length ≤ k) (hk0 : 0 < k) : Sorted lt R := by
  cases h with
  | last h1 h2 => exact h2
  | @cons x R h1 h2 h3 =>
    rw [List.length_append] at hk
    have : R = [] := List.length_eq_zero_iff.1 (by omega)
    rw [this, List.append_nil]; exact h2
theorem Runs.one {R : List α} (h : Runs lt k R) (h1 : k < R.length) (h2 : R.length < k + k) : ∃ x y, R = x ++ y ∧ x.length = k ∧ Sorted lt x ∧ Sorted lt y := by
  cases h with
  | last h3 h4 => omega
  | @cons x R h3 h4 h5 =>
    rw [List.length_append] at h1 h2
    exact ⟨x, R, rfl, h3, h4, h5.sorted (by omega) (by omega)⟩
end
section
variable {α : Type} {cf : α → α → Int}
end
end Go.GB

/- Plain laws of chapter 4: lists alike, lists that are gathered, label sets that are sorted. -/
set_option linter.unusedVariables false
set_option maxRecDepth 100000
namespace Go.Proofs.YtnlkfajnaelnnaaGreatDoor
open Go.GB Go.Lib
abbrev LB := S49
theorem LB_ext {x y : LB} : ((x.f0.toList == y.f0.toList) && (x.f1.toList == y.f1.toList)) = true ↔ x = y := by
  rw [Bool.and_eq_true, toList_inj, toList_inj]
  constructor
  · rintro ⟨h1, h2⟩
    cases x; cases y; simp only at h1 h2; rw [h1, h2]
  · rintro rfl; exact ⟨rfl, rfl⟩
theorem same_eq (a b : List LB) (ha : a.length < 4294967296) : ∃ r, tocsinlaw04_same a b = some r ∧ (r = true ↔ a = b) := by
  unfold tocsinlaw04_same
  by_cases hl : a.length = b.length
  · rw [show ((a.length : Int) != (b.length : Int)) = false by rw [hl]; simp, cond_false]
    have key : ∀ d i : Nat, a.length - i = d → i ≤ a.length → ∃ r : Unit ⊕ Bool, loopO (tocsinlaw04_same_l18 a b) (i : Int) = some r ∧ ((r = .inl () ∧ a.drop i = b.drop i) ∨ (r = .inr false ∧ a.drop i ≠ b.drop i)) := by
      intro d
      induction d with
      | zero =>
        intro i hd hi
        refine ⟨.inl (), loopO_done (by
          unfold tocsinlaw04_same_l18
          rw [show decide ((i : Int) < (a.length : Int)) = false from decide_eq_false (by omega)]; rfl), .inl ⟨rfl, ?_⟩⟩
        rw [List.drop_of_length_le (by omega), List.drop_of_length_le (by omega)]
      | succ d ih =>
        intro i hd hi
        have h1 : i < a.length := by omega
        have h2 : i < b.length := by omega
        have hx : ix a (i : Int) = some a[i] := by rw [ix_nat, List.getElem?_eq_getElem h1]
        have hy : ix b (i : Int) = some b[i] := by rw [ix_nat, List.getElem?_eq_getElem h2]
        rw [List.drop_eq_getElem_cons h1, List.drop_eq_getElem_cons h2]
        cases he : ((a[i].f0.toList == b[i].f0.toList) && (a[i].f1.toList == b[i].f1.toList)) with
        | true =>
          obtain ⟨r, hr, hr'⟩ := ih (i + 1) (by omega) (by omega)
          refine ⟨r, ?_, ?_⟩
          · rw [loopO_step (s' := ((i + 1 : Nat) : Int)) (by
              unfold tocsinlaw04_same_l18
              rw [show decide ((i : Int) < (a.length : Int)) = true from decide_eq_true (by omega)]
              simp only [cond_true, hx, hy, Option.bind_some, he, Bool.not_true, cond_false, wrap_up (show i < 4294967296 by omega)])]
            exact hr
          · rw [LB_ext.1 he]
            rcases hr' with ⟨q1, q2⟩ | ⟨q1, q2⟩
            · exact .inl ⟨q1, by rw [q2]⟩
            · exact .inr ⟨q1, fun e => q2 (List.cons.inj e).2⟩
        | false =>
          refine ⟨.inr false, loopO_done (by
            unfold tocsinlaw04_same_l18
            rw [show decide ((i : Int) < (a.length : Int)) = true from decide_eq_true (by omega)]
            simp only [cond_true, hx, hy, Option.bind_some, he, Bool.not_false]), .inr ⟨rfl, fun e => ?_⟩⟩
          rw [LB_ext.2 (List.cons.inj e).1] at he; cases he
    obtain ⟨r, hr, hr'⟩ := key a.length 0 (by omega) (by omega)
    rw [show ((0 : Nat) : Int) = 0 from rfl] at hr
    rw [hr, Option.bind_some]
    rw [List.drop_zero, List.drop_zero] at hr'
    rcases hr' with ⟨rfl, e⟩ | ⟨rfl, e⟩
    · exact ⟨true, rfl, by simp [e]⟩
    · exact ⟨false, rfl, by simp [e]⟩
  · rw [show ((a.length : Int) != (b.length : Int)) = true by simp; omega, cond_true]
    exact ⟨false, rfl, by simp; intro e; exact hl (by rw [e])⟩
theorem same_self (a : List LB) (ha : a.length < 4294967296) : tocsinlaw04_same a a = some true := by
  obtain ⟨r, h1, h2⟩ := same_eq a a ha
  rw [h1, h2.2 rfl]
end Go.Proofs.YtnlkfajnaelnnaaGreatDoor

/- Plain laws of chapter 4: what is lent and kept; what is spoilt. -/
set_option linter.unusedVariables false
set_option maxRecDepth 100000
namespace Go.Proofs.YtnlkfajnaelnnaaGreatDoor
open Go.GB Go.Lib
def behind : LB := ⟨(⟨#[98, 101, 104, 105, 110, 100]⟩ : ByteArray), (⟨#[119, 104, 97, 116, 32, 119, 97, 115, 32, 104, 97, 110, 100, 101, 100, 32, 105, 110]⟩ : ByteArray)⟩
theorem Lent_eq (l : List LB) (hl : l.length < 2147483648) : tocsinlaw04_Lent l = some (l, l ++ [behind]) := by
  unfold tocsinlaw04_Lent
  rw [app_eq (by simp; omega)]
  simp only [Option.bind_some, List.nil_append]
  rw [app_eq (by simp; omega)]
  simp only [Option.bind_some]
  unfold lx
  rw [if_pos (by simp; omega)]
  simp [behind]
theorem Kept_eq (l : List LB) (hl : l.length < 2147483648) : tocsinlaw04_Kept (l, l ++ [behind]) l = some true := by
  unfold tocsinlaw04_Kept
  simp only [same_self l (by omega), Option.bind_some, cond_true]
  unfold lx
  rw [wrap_up (by omega), if_pos (by simp; omega)]
  simp only [Option.bind_some]
  rw [show ((l ++ [behind]).take (((l.length + 1 : Nat) : Int)).toNat).drop (0 : Int).toNat = l ++ [behind] by
    rw [Int.toNat_natCast, Int.toNat_zero, List.drop_zero, List.take_of_length_le (by simp)]]
  rw [ix_at (A := l) (B := []) (x := behind) rfl rfl]
  simp only [Option.bind_some, behind, beq_self_eq_true]
end Go.Proofs.YtnlkfajnaelnnaaGreatDoor

set_option linter.unusedVariables false
set_option linter.unusedSimpArgs false
set_option maxRecDepth 100000
namespace Go.Proofs.YtnlkfajnaelnnaaGreatDoor
open Go.GB
noncomputable def labels_named_l33_c (a2 : Bool) (l11 : List Int) : Int → Option ((Int) ⊕ ((Unit) ⊕ (Bool))) := fun s23 =>
  bif (decide (s23 < (l11.length : Int))) then
  (Option.bind (ix l11 s23) fun (x36 : Int) =>
    bif (((!(labels_letter x36)) && (!(labels_digit x36))) && (!(a2 && (x36 == 58)))) then
    (some (Sum.inr (Sum.inr false)))
    else
    (some (Sum.inl (IntKind.wrap .i64 (s23 + 1)))))
  else
  (some (Sum.inr (Sum.inl ())))
theorem labels_named_l33_ev (a2 : Bool) (l11 : List Int) (s23 : Int) : OLe (labels_named_l33_c a2 l11 s23) (labels_named_l33 a2 l11 s23) := by
  unfold labels_named_l33_c labels_named_l33
  exact (OLe.cond (OLe.bind (OLe.refl _) (fun _ => (OLe.cond (OLe.refl _) (OLe.refl _)))) (OLe.refl _))
noncomputable def labels_named_c (a0 : ByteArray) (a1 : Int) (a2 : Bool) : Option Bool :=
  Option.bind (bif (a0.toList == (⟨#[]⟩ : ByteArray).toList) then
    (some true)
    else
    (bif (decide ((a0.size : Int) > a1)) then
      (some true)
      else
      (Option.bind (bx a0 0) fun (c8 : Int) =>
        some (labels_digit c8)))) fun (j1 : Bool) =>
  bif j1 then
  (some false)
  else
  (Option.bind (sb a0) fun (l11 : List Int) =>
    Option.bind (loopF 1000000 (labels_named_l33_c a2 l11) 0) fun (r21 : (Unit) ⊕ (Bool)) =>
    match r21 with
    | Sum.inl r29 => some true
    | Sum.inr v54 => some v54)
theorem labels_named_ev (a0 : ByteArray) (a1 : Int) (a2 : Bool) : OLe (labels_named_c a0 a1 a2) (labels_named a0 a1 a2) := by
  unfold labels_named_c labels_named
  exact (OLe.bind (OLe.cond (OLe.refl _) (OLe.cond (OLe.refl _) (OLe.bind (OLe.refl _) (fun _ => (OLe.refl _))))) (fun _ => (OLe.cond (OLe.refl _) (OLe.bind (OLe.refl _) (fun _ => (OLe.bind (OLe.loop (fun _ => labels_named_l33_ev _ _ _)) (fun j => by cases j with | inl a => exact (OLe.refl _) | inr b => exact (OLe.refl _))))))))
noncomputable def labels_Name_c (a0 : ByteArray) : Option Bool :=
  Option.bind (labels_named_c a0 64 false) fun (y1 : Bool) =>
  some y1
theorem labels_Name_ev (a0 : ByteArray) : OLe (labels_Name_c a0) (labels_Name a0) := by
  unfold labels_Name_c labels_Name
  exact (OLe.bind (labels_named_ev _ _ _) (fun _ => (OLe.refl _)))
noncomputable def utf8_ValidString_c (a0 : ByteArray) : Option Bool := utf8_ValidString a0
theorem utf8_ValidString_ev (a0 : ByteArray) : OLe (utf8_ValidString_c a0) (utf8_ValidString a0) := OLe.refl _
noncomputable def labels_value_c (a0 : ByteArray) : Option Int :=
  bif (a0.toList == (⟨#[]⟩ : ByteArray).toList) then
  (some 41)
  else
  (bif (decide ((a0.size : Int) > 256)) then
    (some 4)
    else
    (Option.bind (utf8_ValidString_c a0) fun (y3 : Bool) =>
      bif (!y3) then
      (some 12)
      else
      (some 0)))
theorem labels_value_ev (a0 : ByteArray) : OLe (labels_value_c a0) (labels_value a0) := by
  unfold labels_value_c labels_value
  exact (OLe.cond (OLe.refl _) (OLe.cond (OLe.refl _) (OLe.bind (utf8_ValidString_ev _) (fun _ => (OLe.cond (OLe.refl _) (OLe.refl _))))))
noncomputable def labels_Right_l18_c (a0 : List S49) : Int → Option ((Int) ⊕ ((Unit) ⊕ (Int × Int))) := fun s8 =>
  bif (decide (s8 < (a0.length : Int))) then
  (Option.bind (ix a0 s8) fun (x21 : S49) =>
    Option.bind (labels_Name_c x21.f0) fun (y30 : Bool) =>
    bif (!y30) then
    (some (Sum.inr (Sum.inr (40, s8))))
    else
    (Option.bind (labels_value_c x21.f1) fun (y33 : Int) =>
      bif (y33 != 0) then
      (some (Sum.inr (Sum.inr (y33, s8))))
      else
      (Option.bind (bif (decide (s8 > 0)) then
          (Option.bind (ix a0 (IntKind.wrap .i64 (s8 - 1))) fun (x42 : S49) =>
            some ((Op.bytesLess x21.f0.toList x42.f0.toList) || (x21.f0.toList == x42.f0.toList)))
          else
          (some false)) fun (j36 : Bool) =>
        bif j36 then
        (some (Sum.inr (Sum.inr (3, s8))))
        else
        (some (Sum.inl (IntKind.wrap .i64 (s8 + 1)))))))
  else
  (some (Sum.inr (Sum.inl ())))
theorem labels_Right_l18_ev (a0 : List S49) (s8 : Int) : OLe (labels_Right_l18_c a0 s8) (labels_Right_l18 a0 s8) := by
  unfold labels_Right_l18_c labels_Right_l18
  exact (OLe.cond (OLe.bind (OLe.refl _) (fun _ => (OLe.bind (labels_Name_ev _) (fun _ => (OLe.cond (OLe.refl _) (OLe.bind (labels_value_ev _) (fun _ => (OLe.cond (OLe.refl _) (OLe.bind (OLe.cond (OLe.bind (OLe.refl _) (fun _ => (OLe.refl _))) (OLe.refl _)) (fun _ => (OLe.cond (OLe.refl _) (OLe.refl _)))))))))))) (OLe.refl _))
noncomputable def labels_Right_c (a0 : List S49) : Option (Int × Int) :=
  bif (decide ((a0.length : Int) > 16)) then
  (some (8, 0))
  else
  (Option.bind (loopF 1000000 (labels_Right_l18_c a0) 0) fun (r6 : (Unit) ⊕ (Int × Int)) =>
    match r6 with
    | Sum.inl r14 => some (0, 0)
    | Sum.inr v51 => some v51)
theorem labels_Right_ev (a0 : List S49) : OLe (labels_Right_c a0) (labels_Right a0) := by
  unfold labels_Right_c labels_Right
  exact (OLe.cond (OLe.refl _) (OLe.bind (OLe.loop (fun _ => labels_Right_l18_ev _ _)) (fun j => by cases j with | inl a => exact (OLe.refl _) | inr b => exact (OLe.refl _))))
noncomputable def labels_right_c (a0 : List S49) : Option Int :=
  Option.bind (labels_Right_c a0) fun (y1 : Int × Int) =>
  some y1.1
theorem labels_right_ev (a0 : List S49) : OLe (labels_right_c a0) (labels_right a0) := by
  unfold labels_right_c labels_right
  exact (OLe.bind (labels_Right_ev _) (fun _ => (OLe.refl _)))
noncomputable def labels_reader_blanks_l16_c (a0 : S89) : Int → Option ((Int) ⊕ (Int)) := fun s7 =>
  Option.bind (bif (decide (s7 < (a0.f0.size : Int))) then
    (Option.bind (bx a0.f0 s7) fun (c24 : Int) =>
      bif (c24 == 32) then
      (some true)
      else
      (Option.bind (bx a0.f0 s7) fun (c27 : Int) =>
        some (c27 == 9)))
    else
    (some false)) fun (j18 : Bool) =>
  bif j18 then
  (some (Sum.inl (IntKind.wrap .i64 (s7 + 1))))
  else
  (some (Sum.inr s7))
theorem labels_reader_blanks_l16_ev (a0 : S89) (s7 : Int) : OLe (labels_reader_blanks_l16_c a0 s7) (labels_reader_blanks_l16 a0 s7) := by
  unfold labels_reader_blanks_l16_c labels_reader_blanks_l16
  exact (OLe.bind (OLe.cond (OLe.bind (OLe.refl _) (fun _ => (OLe.cond (OLe.refl _) (OLe.bind (OLe.refl _) (fun _ => (OLe.refl _)))))) (OLe.refl _)) (fun _ => (OLe.cond (OLe.refl _) (OLe.refl _))))
noncomputable def labels_reader_blanks_c (a0 : S89) : Option S89 :=
  Option.bind (loopF 1000000 (labels_reader_blanks_l16_c a0) a0.f1) fun (r5 : Int) =>
  some (⟨a0.f0, r5, a0.f2⟩ : S89)
theorem labels_reader_blanks_ev (a0 : S89) : OLe (labels_reader_blanks_c a0) (labels_reader_blanks a0) := by
  unfold labels_reader_blanks_c labels_reader_blanks
  exact (OLe.bind (OLe.loop (fun _ => labels_reader_blanks_l16_ev _ _)) (fun _ => (OLe.refl _)))
noncomputable def labels_Metric_c (a0 : ByteArray) : Option Bool :=
  Option.bind (labels_named_c a0 256 true) fun (y1 : Bool) =>
  some y1
theorem labels_Metric_ev (a0 : ByteArray) : OLe (labels_Metric_c a0) (labels_Metric a0) := by
  unfold labels_Metric_c labels_Metric
  exact (OLe.bind (labels_named_ev _ _ _) (fun _ => (OLe.refl _)))
noncomputable def labels_reader_fail_c (a0 : S89) (a1 : Int) : Option S89 :=
  Option.bind (bif (decide (a0.f2 < 0)) then
    (some a1)
    else
    (some a0.f2)) fun (j1 : Int) =>
  some (⟨a0.f0, a0.f1, j1⟩ : S89)
theorem labels_reader_fail_ev (a0 : S89) (a1 : Int) : OLe (labels_reader_fail_c a0 a1) (labels_reader_fail a0 a1) := by
  unfold labels_reader_fail_c labels_reader_fail
  exact (OLe.bind (OLe.cond (OLe.refl _) (OLe.refl _)) (fun _ => (OLe.refl _)))
noncomputable def labels_reader_name_l22_c (a1 : Bool) (y2 : S89) : Int → Option ((Int) ⊕ (Int)) := fun s13 =>
  Option.bind (bif (decide (s13 < (y2.f0.size : Int))) then
    (Option.bind (bx y2.f0 s13) fun (c30 : Int) =>
      bif (labels_letter c30) then
      (some true)
      else
      (Option.bind (bx y2.f0 s13) fun (c33 : Int) =>
        bif (labels_digit c33) then
        (some true)
        else
        (bif a1 then
          (Option.bind (bx y2.f0 s13) fun (c37 : Int) =>
            some (c37 == 58))
          else
          (some false))))
    else
    (some false)) fun (j24 : Bool) =>
  bif j24 then
  (some (Sum.inl (IntKind.wrap .i64 (s13 + 1))))
  else
  (some (Sum.inr s13))
theorem labels_reader_name_l22_ev (a1 : Bool) (y2 : S89) (s13 : Int) : OLe (labels_reader_name_l22_c a1 y2 s13) (labels_reader_name_l22 a1 y2 s13) := by
  unfold labels_reader_name_l22_c labels_reader_name_l22
  exact (OLe.bind (OLe.cond (OLe.bind (OLe.refl _) (fun _ => (OLe.cond (OLe.refl _) (OLe.bind (OLe.refl _) (fun _ => (OLe.cond (OLe.refl _) (OLe.cond (OLe.bind (OLe.refl _) (fun _ => (OLe.refl _))) (OLe.refl _)))))))) (OLe.refl _)) (fun _ => (OLe.cond (OLe.refl _) (OLe.refl _))))
noncomputable def labels_reader_name_c (a0 : S89) (a1 : Bool) : Option (ByteArray × S89) :=
  bif (decide (a0.f2 ≥ 0)) then
  (some ((⟨#[]⟩ : ByteArray), a0))
  else
  (Option.bind (labels_reader_blanks_c a0) fun (y2 : S89) =>
    Option.bind (loopF 1000000 (labels_reader_name_l22_c a1 y2) y2.f1) fun (r11 : Int) =>
    Option.bind (sx y2.f0 y2.f1 r11) fun (s41 : ByteArray) =>
    Option.bind (bif a1 then
      (Option.bind (labels_Metric_c s41) fun (y48 : Bool) =>
        bif (!y48) then
        (some true)
        else
        (bif (!a1) then
          (Option.bind (labels_Name_c s41) fun (y52 : Bool) =>
            some (!y52))
          else
          (some false)))
      else
      (bif (!a1) then
        (Option.bind (labels_Name_c s41) fun (y55 : Bool) =>
          some (!y55))
        else
        (some false))) fun (j42 : Bool) =>
    Option.bind (bif j42 then
      (Option.bind (bif (s41.toList == (⟨#[]⟩ : ByteArray).toList) then
          (Option.bind (labels_reader_fail_c (⟨y2.f0, r11, y2.f2⟩ : S89) r11) fun (y69 : S89) =>
            some (y69.f0, y69.f1, y69.f2))
          else
          (some (y2.f0, r11, y2.f2))) fun (j63 : ByteArray × Int × Int) =>
        Option.bind (labels_reader_fail_c (⟨j63.1, j63.2.1, j63.2.2⟩ : S89) y2.f1) fun (y74 : S89) =>
        some (y74.f0, y74.f1, y74.f2))
      else
      (some (y2.f0, r11, y2.f2))) fun (j57 : ByteArray × Int × Int) =>
    some (s41, (⟨j57.1, j57.2.1, j57.2.2⟩ : S89)))
theorem labels_reader_name_ev (a0 : S89) (a1 : Bool) : OLe (labels_reader_name_c a0 a1) (labels_reader_name a0 a1) := by
  unfold labels_reader_name_c labels_reader_name
  exact (OLe.cond (OLe.refl _) (OLe.bind (labels_reader_blanks_ev _) (fun _ => (OLe.bind (OLe.loop (fun _ => labels_reader_name_l22_ev _ _ _)) (fun _ => (OLe.bind (OLe.refl _) (fun _ => (OLe.bind (OLe.cond (OLe.bind (labels_Metric_ev _) (fun _ => (OLe.cond (OLe.refl _) (OLe.cond (OLe.bind (labels_Name_ev _) (fun _ => (OLe.refl _))) (OLe.refl _))))) (OLe.cond (OLe.bind (labels_Name_ev _) (fun _ => (OLe.refl _))) (OLe.refl _))) (fun _ => (OLe.bind (OLe.cond (OLe.bind (OLe.cond (OLe.bind (labels_reader_fail_ev _ _) (fun _ => (OLe.refl _))) (OLe.refl _)) (fun _ => (OLe.bind (labels_reader_fail_ev _ _) (fun _ => (OLe.refl _))))) (OLe.refl _)) (fun _ => (OLe.refl _))))))))))))
noncomputable def labels_reader_next_c (a0 : S89) (a1 : Int) : Option (Bool × S89) :=
  bif (decide (a0.f2 ≥ 0)) then
  (some (false, a0))
  else
  (Option.bind (labels_reader_blanks_c a0) fun (y2 : S89) =>
    Option.bind (bif (decide (y2.f1 ≥ (y2.f0.size : Int))) then
      (some true)
      else
      (Option.bind (bx y2.f0 y2.f1) fun (c13 : Int) =>
        some (c13 != a1))) fun (j7 : Bool) =>
    bif j7 then
    (some (false, y2))
    else
    (some (true, (⟨y2.f0, (IntKind.wrap .i64 (y2.f1 + 1)), y2.f2⟩ : S89))))
theorem labels_reader_next_ev (a0 : S89) (a1 : Int) : OLe (labels_reader_next_c a0 a1) (labels_reader_next a0 a1) := by
  unfold labels_reader_next_c labels_reader_next
  exact (OLe.cond (OLe.refl _) (OLe.bind (labels_reader_blanks_ev _) (fun _ => (OLe.bind (OLe.cond (OLe.refl _) (OLe.bind (OLe.refl _) (fun _ => (OLe.refl _)))) (fun _ => (OLe.cond (OLe.refl _) (OLe.refl _)))))))
noncomputable def labels_reader_want_c (a0 : S89) (a1 : Int) : Option S89 :=
  Option.bind (labels_reader_next_c a0 a1) fun (y1 : Bool × S89) =>
  Option.bind (bif (!y1.1) then
    (Option.bind (labels_reader_fail_c y1.2 y1.2.f1) fun (y12 : S89) =>
      some (y12.f0, y12.f1, y12.f2))
    else
    (some (y1.2.f0, y1.2.f1, y1.2.f2))) fun (j6 : ByteArray × Int × Int) =>
  some (⟨j6.1, j6.2.1, j6.2.2⟩ : S89)
theorem labels_reader_want_ev (a0 : S89) (a1 : Int) : OLe (labels_reader_want_c a0 a1) (labels_reader_want a0 a1) := by
  unfold labels_reader_want_c labels_reader_want
  exact (OLe.bind (labels_reader_next_ev _ _) (fun _ => (OLe.bind (OLe.cond (OLe.bind (labels_reader_fail_ev _ _) (fun _ => (OLe.refl _))) (OLe.refl _)) (fun _ => (OLe.refl _)))))
noncomputable def strings_Builder_WriteByte_c (a0 : S127) (a1 : Int) : Option (Unit × S127) :=
  Option.bind (app ((strings_Builder_copyCheck (⟨a0.f1⟩ : S127)).f1) [a1]) fun (zs14 : List Int) =>
  some ((), (⟨zs14⟩ : S127))
theorem strings_Builder_WriteByte_ev (a0 : S127) (a1 : Int) : OLe (strings_Builder_WriteByte_c a0 a1) (strings_Builder_WriteByte a0 a1) := by
  unfold strings_Builder_WriteByte_c strings_Builder_WriteByte
  exact (OLe.bind (OLe.refl _) (fun _ => (OLe.refl _)))
noncomputable def labels_reader_value_l35_c : (ByteArray × Int × Int × Unit × (List Int)) → Option ((ByteArray × Int × Int × Unit × (List Int)) ⊕ ((ByteArray × Int × Int) ⊕ (ByteArray × S89))) := fun s19 =>
  bif ((decide (s19.2.2.1 < 0)) && (decide (s19.2.1 < (s19.1.size : Int)))) then
  (Option.bind (bx s19.1 s19.2.1) fun (c44 : Int) =>
    bif (c44 == 34) then
    (Option.bind (strings_Builder_String (⟨s19.2.2.2.2⟩ : S127)) fun (y47 : ByteArray) =>
      some (Sum.inr (Sum.inr (y47, (⟨s19.1, (IntKind.wrap .i64 (s19.2.1 + 1)), s19.2.2.1⟩ : S89)))))
    else
    (Option.bind (bif (c44 != 92) then
        (Option.bind (strings_Builder_WriteByte_c (⟨s19.2.2.2.2⟩ : S127) c44) fun (y64 : Unit × S127) =>
          some ((), y64.2.f1, s19.1, (IntKind.wrap .i64 (s19.2.1 + 1)), s19.2.2.1))
        else
        (Option.bind (bif (decide ((IntKind.wrap .i64 (s19.2.1 + 1)) ≥ (s19.1.size : Int))) then
            (Option.bind (labels_reader_fail_c (⟨s19.1, (IntKind.wrap .i64 (s19.2.1 + 1)), s19.2.2.1⟩ : S89) (IntKind.wrap .i64 (s19.2.1 + 1))) fun (y87 : S89) =>
              some ((), s19.2.2.2.2, y87.f0, y87.f1, y87.f2))
            else
            (Option.bind (bx s19.1 (IntKind.wrap .i64 (s19.2.1 + 1))) fun (c92 : Int) =>
              Option.bind (bif (c92 == 110) then
                (Option.bind (strings_Builder_WriteByte_c (⟨s19.2.2.2.2⟩ : S127) 10) fun (y106 : Unit × S127) =>
                  some ((), y106.2.f1, s19.1, (IntKind.wrap .i64 (s19.2.1 + 1)), s19.2.2.1))
                else
                (Option.bind (bif ((c92 == 92) || (c92 == 34)) then
                    (Option.bind (strings_Builder_WriteByte_c (⟨s19.2.2.2.2⟩ : S127) c92) fun (y133 : Unit × S127) =>
                      some ((), y133.2.f1, s19.1, (IntKind.wrap .i64 (s19.2.1 + 1)), s19.2.2.1))
                    else
                    (Option.bind (labels_reader_fail_c (⟨s19.1, (IntKind.wrap .i64 (s19.2.1 + 1)), s19.2.2.1⟩ : S89) (IntKind.wrap .i64 ((IntKind.wrap .i64 (s19.2.1 + 1)) - 1))) fun (y144 : S89) =>
                      some ((), s19.2.2.2.2, y144.f0, y144.f1, y144.f2))) fun (j121 : Unit × (List Int) × ByteArray × Int × Int) =>
                  some ((), j121.2.1, j121.2.2.1, j121.2.2.2.1, j121.2.2.2.2))) fun (j94 : Unit × (List Int) × ByteArray × Int × Int) =>
              some ((), j94.2.1, j94.2.2.1, (IntKind.wrap .i64 (j94.2.2.2.1 + 1)), j94.2.2.2.2))) fun (j75 : Unit × (List Int) × ByteArray × Int × Int) =>
          some ((), j75.2.1, j75.2.2.1, j75.2.2.2.1, j75.2.2.2.2))) fun (j52 : Unit × (List Int) × ByteArray × Int × Int) =>
      some (Sum.inl (j52.2.2.1, j52.2.2.2.1, j52.2.2.2.2, (), j52.2.1))))
  else
  (some (Sum.inr (Sum.inl (s19.1, s19.2.1, s19.2.2.1))))
theorem labels_reader_value_l35_ev  (s19 : ByteArray × Int × Int × Unit × (List Int)) : OLe (labels_reader_value_l35_c  s19) (labels_reader_value_l35  s19) := by
  unfold labels_reader_value_l35_c labels_reader_value_l35
  exact (OLe.cond (OLe.bind (OLe.refl _) (fun _ => (OLe.cond (OLe.bind (OLe.refl _) (fun _ => (OLe.refl _))) (OLe.bind (OLe.cond (OLe.bind (strings_Builder_WriteByte_ev _ _) (fun _ => (OLe.refl _))) (OLe.bind (OLe.cond (OLe.bind (labels_reader_fail_ev _ _) (fun _ => (OLe.refl _))) (OLe.bind (OLe.refl _) (fun _ => (OLe.bind (OLe.cond (OLe.bind (strings_Builder_WriteByte_ev _ _) (fun _ => (OLe.refl _))) (OLe.bind (OLe.cond (OLe.bind (strings_Builder_WriteByte_ev _ _) (fun _ => (OLe.refl _))) (OLe.bind (labels_reader_fail_ev _ _) (fun _ => (OLe.refl _)))) (fun _ => (OLe.refl _)))) (fun _ => (OLe.refl _)))))) (fun _ => (OLe.refl _)))) (fun _ => (OLe.refl _)))))) (OLe.refl _))
noncomputable def labels_reader_value_c (a0 : S89) : Option (ByteArray × S89) :=
  Option.bind (labels_reader_want_c a0 34) fun (y1 : S89) =>
  Option.bind (loopF 1000000 labels_reader_value_l35_c (y1.f0, y1.f1, y1.f2, (), [])) fun (r17 : (ByteArray × Int × Int) ⊕ (ByteArray × S89)) =>
  match r17 with
  | Sum.inl r31 => Option.bind (labels_reader_fail_c (⟨r31.1, r31.2.1, r31.2.2⟩ : S89) (r31.1.size : Int)) fun (y149 : S89) =>
    some ((⟨#[]⟩ : ByteArray), y149)
  | Sum.inr v154 => some v154
theorem labels_reader_value_ev (a0 : S89) : OLe (labels_reader_value_c a0) (labels_reader_value a0) := by
  unfold labels_reader_value_c labels_reader_value
  exact (OLe.bind (labels_reader_want_ev _ _) (fun _ => (OLe.bind (OLe.loop (fun _ => labels_reader_value_l35_ev  _)) (fun j => by cases j with | inl a => exact (OLe.bind (labels_reader_fail_ev _ _) (fun _ => (OLe.refl _))) | inr b => exact (OLe.refl _)))))
noncomputable def labels_reader_braces_l29_c : (ByteArray × Int × Int × (List S49)) → Option ((ByteArray × Int × Int × (List S49)) ⊕ (((List S49) × ByteArray × Int × Int) ⊕ ((List S49) × S89))) := fun s11 =>
  Option.bind (labels_reader_next_c (⟨s11.1, s11.2.1, s11.2.2.1⟩ : S89) 125) fun (y31 : Bool × S89) =>
  bif (!y31.1) then
  (Option.bind (labels_reader_name_c y31.2 false) fun (y37 : ByteArray × S89) =>
    Option.bind (labels_reader_want_c y37.2 61) fun (y43 : S89) =>
    Option.bind (labels_reader_value_c y43) fun (y48 : ByteArray × S89) =>
    bif (decide (y48.2.f2 ≥ 0)) then
    (some (Sum.inr (Sum.inr ([], y48.2))))
    else
    (Option.bind (app s11.2.2.2 [(⟨y37.1, y48.1⟩ : S49)]) fun (zs58 : List S49) =>
      Option.bind (labels_reader_next_c y48.2 44) fun (y64 : Bool × S89) =>
      bif (!y64.1) then
      (Option.bind (labels_reader_want_c y64.2 125) fun (y70 : S89) =>
        some (Sum.inr (Sum.inr (zs58, y70))))
      else
      (some (Sum.inl (y64.2.f0, y64.2.f1, y64.2.f2, zs58)))))
  else
  (some (Sum.inr (Sum.inl (s11.2.2.2, y31.2.f0, y31.2.f1, y31.2.f2))))
theorem labels_reader_braces_l29_ev  (s11 : ByteArray × Int × Int × (List S49)) : OLe (labels_reader_braces_l29_c  s11) (labels_reader_braces_l29  s11) := by
  unfold labels_reader_braces_l29_c labels_reader_braces_l29
  exact (OLe.bind (labels_reader_next_ev _ _) (fun _ => (OLe.cond (OLe.bind (labels_reader_name_ev _ _) (fun _ => (OLe.bind (labels_reader_want_ev _ _) (fun _ => (OLe.bind (labels_reader_value_ev _) (fun _ => (OLe.cond (OLe.refl _) (OLe.bind (OLe.refl _) (fun _ => (OLe.bind (labels_reader_next_ev _ _) (fun _ => (OLe.cond (OLe.bind (labels_reader_want_ev _ _) (fun _ => (OLe.refl _))) (OLe.refl _))))))))))))) (OLe.refl _))))
noncomputable def labels_reader_braces_c (a0 : S89) : Option ((List S49) × S89) :=
  Option.bind (loopF 1000000 labels_reader_braces_l29_c (a0.f0, a0.f1, a0.f2, [])) fun (r9 : ((List S49) × ByteArray × Int × Int) ⊕ ((List S49) × S89)) =>
  match r9 with
  | Sum.inl r21 => some (r21.1, (⟨r21.2.1, r21.2.2.1, r21.2.2.2⟩ : S89))
  | Sum.inr v75 => some v75
theorem labels_reader_braces_ev (a0 : S89) : OLe (labels_reader_braces_c a0) (labels_reader_braces a0) := by
  unfold labels_reader_braces_c labels_reader_braces
  exact (OLe.bind (OLe.loop (fun _ => labels_reader_braces_l29_ev  _)) (fun j => by cases j with | inl a => exact (OLe.refl _) | inr b => exact (OLe.refl _)))
noncomputable def labels_own_c (a0 : List S49) : Option (List S49) :=
  Option.bind (mkrow ((⟨(⟨#[]⟩ : ByteArray), (⟨#[]⟩ : ByteArray)⟩ : S49) : S49) (a0.length : Int) (a0.length : Int)) fun (xs1 : List S49) =>
  some (lcopy xs1 a0)
theorem labels_own_ev (a0 : List S49) : OLe (labels_own_c a0) (labels_own a0) := by
  unfold labels_own_c labels_own
  exact (OLe.bind (OLe.refl _) (fun _ => (OLe.refl _)))
noncomputable def slices_insertionSortCmpFunc_l52_c (a1 : Int) : ((List S49) × Int) → Option (((List S49) × Int) ⊕ ((List S49))) := fun s37 =>
  Option.bind (bif (decide (s37.2 > a1)) then
    (Option.bind (ix s37.1 s37.2) fun (x60 : S49) =>
      Option.bind (ix s37.1 (IntKind.wrap .i64 (s37.2 - 1))) fun (x69 : S49) =>
      some (decide ((labels_sorted_1 x60 x69) < 0)))
    else
    (some false)) fun (j54 : Bool) =>
  bif j54 then
  (Option.bind (ix s37.1 (IntKind.wrap .i64 (s37.2 - 1))) fun (x79 : S49) =>
    Option.bind (ix s37.1 s37.2) fun (x88 : S49) =>
    Option.bind (ix s37.1 s37.2) fun (x97 : S49) =>
    Option.bind (ix (lset s37.1 s37.2 x79) (IntKind.wrap .i64 (s37.2 - 1))) fun (x109 : S49) =>
    some (Sum.inl ((lset (lset s37.1 s37.2 x79) (IntKind.wrap .i64 (s37.2 - 1)) x88), (IntKind.wrap .i64 (s37.2 - 1)))))
  else
  (some (Sum.inr s37.1))
theorem slices_insertionSortCmpFunc_l52_ev (a1 : Int) (s37 : (List S49) × Int) : OLe (slices_insertionSortCmpFunc_l52_c a1 s37) (slices_insertionSortCmpFunc_l52 a1 s37) := by
  unfold slices_insertionSortCmpFunc_l52_c slices_insertionSortCmpFunc_l52
  exact (OLe.bind (OLe.cond (OLe.bind (OLe.refl _) (fun _ => (OLe.bind (OLe.refl _) (fun _ => (OLe.refl _))))) (OLe.refl _)) (fun _ => (OLe.cond (OLe.bind (OLe.refl _) (fun _ => (OLe.bind (OLe.refl _) (fun _ => (OLe.bind (OLe.refl _) (fun _ => (OLe.bind (OLe.refl _) (fun _ => (OLe.refl _))))))))) (OLe.refl _))))
noncomputable def slices_insertionSortCmpFunc_l25_c (a1 : Int) (a2 : Int) : ((List S49) × Int) → Option (((List S49) × Int) ⊕ ((List S49))) := fun s10 =>
  bif (decide (s10.2 < a2)) then
  (Option.bind (loopF 1000000 (slices_insertionSortCmpFunc_l52_c a1) (s10.1, s10.2)) fun (r35 : (List S49)) =>
    some (Sum.inl (r35, (IntKind.wrap .i64 (s10.2 + 1)))))
  else
  (some (Sum.inr s10.1))
theorem slices_insertionSortCmpFunc_l25_ev (a1 : Int) (a2 : Int) (s10 : (List S49) × Int) : OLe (slices_insertionSortCmpFunc_l25_c a1 a2 s10) (slices_insertionSortCmpFunc_l25 a1 a2 s10) := by
  unfold slices_insertionSortCmpFunc_l25_c slices_insertionSortCmpFunc_l25
  exact (OLe.cond (OLe.bind (OLe.loop (fun _ => slices_insertionSortCmpFunc_l52_ev _ _)) (fun _ => (OLe.refl _))) (OLe.refl _))
noncomputable def slices_insertionSortCmpFunc_c (a0 : List S49) (a1 : Int) (a2 : Int) : Option (List S49) :=
  Option.bind (loopF 1000000 (slices_insertionSortCmpFunc_l25_c a1 a2) (a0, (IntKind.wrap .i64 (a1 + 1)))) fun (r8 : (List S49)) =>
  some r8
theorem slices_insertionSortCmpFunc_ev (a0 : List S49) (a1 : Int) (a2 : Int) : OLe (slices_insertionSortCmpFunc_c a0 a1 a2) (slices_insertionSortCmpFunc a0 a1 a2) := by
  unfold slices_insertionSortCmpFunc_c slices_insertionSortCmpFunc
  exact (OLe.bind (OLe.loop (fun _ => slices_insertionSortCmpFunc_l25_ev _ _ _)) (fun _ => (OLe.refl _)))
noncomputable def slices_symMergeCmpFunc_c (a0 : List S49) (a1 : Int) (a2 : Int) (a3 : Int) : Option (List S49) := none
theorem slices_symMergeCmpFunc_ev (a0 : List S49) (a1 : Int) (a2 : Int) (a3 : Int) : OLe (slices_symMergeCmpFunc_c a0 a1 a2 a3) (slices_symMergeCmpFunc a0 a1 a2 a3) := by
  intro r h; cases h
noncomputable def slices_stableCmpFunc_l25_c (a1 : Int) : ((List S49) × Int × Int) → Option (((List S49) × Int × Int) ⊕ ((List S49) × Int)) := fun s10 =>
  bif (decide (s10.2.2 ≤ a1)) then
  (Option.bind (slices_insertionSortCmpFunc_c s10.1 s10.2.1 s10.2.2) fun (y28 : (List S49)) =>
    some (Sum.inl (y28, s10.2.2, (IntKind.wrap .i64 (s10.2.2 + 20)))))
  else
  (some (Sum.inr (s10.1, s10.2.1)))
theorem slices_stableCmpFunc_l25_ev (a1 : Int) (s10 : (List S49) × Int × Int) : OLe (slices_stableCmpFunc_l25_c a1 s10) (slices_stableCmpFunc_l25 a1 s10) := by
  unfold slices_stableCmpFunc_l25_c slices_stableCmpFunc_l25
  exact (OLe.cond (OLe.bind (slices_insertionSortCmpFunc_ev _ _ _) (fun _ => (OLe.refl _))) (OLe.refl _))
noncomputable def slices_stableCmpFunc_l95_c (a1 : Int) (s53 : (List S49) × Int) : ((List S49) × Int × Int) → Option (((List S49) × Int × Int) ⊕ ((List S49) × Int)) := fun s80 =>
  bif (decide (s80.2.2 ≤ a1)) then
  (Option.bind (slices_symMergeCmpFunc_c s80.1 s80.2.1 (IntKind.wrap .i64 (s80.2.1 + s53.2)) s80.2.2) fun (y98 : (List S49)) =>
    some (Sum.inl (y98, s80.2.2, (IntKind.wrap .i64 (s80.2.2 + (IntKind.wrap .i64 (2 * s53.2)))))))
  else
  (some (Sum.inr (s80.1, s80.2.1)))
theorem slices_stableCmpFunc_l95_ev (a1 : Int) (s53 : (List S49) × Int) (s80 : (List S49) × Int × Int) : OLe (slices_stableCmpFunc_l95_c a1 s53 s80) (slices_stableCmpFunc_l95 a1 s53 s80) := by
  unfold slices_stableCmpFunc_l95_c slices_stableCmpFunc_l95
  exact (OLe.cond (OLe.bind (slices_symMergeCmpFunc_ev _ _ _ _) (fun _ => (OLe.refl _))) (OLe.refl _))
noncomputable def slices_stableCmpFunc_l68_c (a1 : Int) : ((List S49) × Int) → Option (((List S49) × Int) ⊕ ((List S49))) := fun s53 =>
  bif (decide (s53.2 < a1)) then
  (Option.bind (loopF 1000000 (slices_stableCmpFunc_l95_c a1 s53) (s53.1, 0, (IntKind.wrap .i64 (2 * s53.2)))) fun (r78 : (List S49) × Int) =>
    Option.bind (bif (decide ((IntKind.wrap .i64 (r78.2 + s53.2)) < a1)) then
      (Option.bind (slices_symMergeCmpFunc_c r78.1 r78.2 (IntKind.wrap .i64 (r78.2 + s53.2)) a1) fun (y115 : (List S49)) =>
        some y115)
      else
      (some r78.1)) fun (j106 : (List S49)) =>
    some (Sum.inl (j106, (IntKind.wrap .i64 (s53.2 * 2)))))
  else
  (some (Sum.inr s53.1))
theorem slices_stableCmpFunc_l68_ev (a1 : Int) (s53 : (List S49) × Int) : OLe (slices_stableCmpFunc_l68_c a1 s53) (slices_stableCmpFunc_l68 a1 s53) := by
  unfold slices_stableCmpFunc_l68_c slices_stableCmpFunc_l68
  exact (OLe.cond (OLe.bind (OLe.loop (fun _ => slices_stableCmpFunc_l95_ev _ _ _)) (fun _ => (OLe.bind (OLe.cond (OLe.bind (slices_symMergeCmpFunc_ev _ _ _ _) (fun _ => (OLe.refl _))) (OLe.refl _)) (fun _ => (OLe.refl _))))) (OLe.refl _))
noncomputable def slices_stableCmpFunc_c (a0 : List S49) (a1 : Int) : Option (List S49) :=
  Option.bind (loopF 1000000 (slices_stableCmpFunc_l25_c a1) (a0, 0, 20)) fun (r8 : (List S49) × Int) =>
  Option.bind (slices_insertionSortCmpFunc_c r8.1 r8.2 a1) fun (y36 : (List S49)) =>
  Option.bind (loopF 1000000 (slices_stableCmpFunc_l68_c a1) (y36, 20)) fun (r51 : (List S49)) =>
  some r51
theorem slices_stableCmpFunc_ev (a0 : List S49) (a1 : Int) : OLe (slices_stableCmpFunc_c a0 a1) (slices_stableCmpFunc a0 a1) := by
  unfold slices_stableCmpFunc_c slices_stableCmpFunc
  exact (OLe.bind (OLe.loop (fun _ => slices_stableCmpFunc_l25_ev _ _)) (fun _ => (OLe.bind (slices_insertionSortCmpFunc_ev _ _ _) (fun _ => (OLe.bind (OLe.loop (fun _ => slices_stableCmpFunc_l68_ev _ _)) (fun _ => (OLe.refl _)))))))
noncomputable def slices_SortStableFunc_c (a0 : List S49) : Option (List S49) :=
  Option.bind (slices_stableCmpFunc_c a0 (a0.length : Int)) fun (y1 : (List S49)) =>
  some y1
theorem slices_SortStableFunc_ev (a0 : List S49) : OLe (slices_SortStableFunc_c a0) (slices_SortStableFunc a0) := by
  unfold slices_SortStableFunc_c slices_SortStableFunc
  exact (OLe.bind (slices_stableCmpFunc_ev _ _) (fun _ => (OLe.refl _)))
noncomputable def labels_sorted_l45_c (y10 : (List S49)) : ((List S49) × Bool × Int) → Option (((List S49) × Bool × Int) ⊕ ((List S49) × Bool)) := fun s28 =>
  bif (decide (s28.2.2 < (y10.length : Int))) then
  (Option.bind (ix y10 s28.2.2) fun (x48 : S49) =>
    Option.bind (bif s28.2.1 then
      (some true)
      else
      (bif (decide (s28.2.2 > 0)) then
        (Option.bind (ix y10 (IntKind.wrap .i64 (s28.2.2 - 1))) fun (x65 : S49) =>
          some (x65.f0.toList == x48.f0.toList))
        else
        (some false))) fun (j58 : Bool) =>
    Option.bind (bif (!(x48.f1.toList == (⟨#[]⟩ : ByteArray).toList)) then
      (Option.bind (app s28.1 [x48]) fun (zs88 : List S49) =>
        some zs88)
      else
      (some s28.1)) fun (j74 : (List S49)) =>
    some (Sum.inl (j74, j58, (IntKind.wrap .i64 (s28.2.2 + 1)))))
  else
  (some (Sum.inr (s28.1, s28.2.1)))
theorem labels_sorted_l45_ev (y10 : (List S49)) (s28 : (List S49) × Bool × Int) : OLe (labels_sorted_l45_c y10 s28) (labels_sorted_l45 y10 s28) := by
  unfold labels_sorted_l45_c labels_sorted_l45
  exact (OLe.cond (OLe.bind (OLe.refl _) (fun _ => (OLe.bind (OLe.cond (OLe.refl _) (OLe.cond (OLe.bind (OLe.refl _) (fun _ => (OLe.refl _))) (OLe.refl _))) (fun _ => (OLe.bind (OLe.cond (OLe.bind (OLe.refl _) (fun _ => (OLe.refl _))) (OLe.refl _)) (fun _ => (OLe.refl _))))))) (OLe.refl _))
noncomputable def labels_sorted_c (a0 : List S49) : Option ((List S49) × Bool) :=
  Option.bind (labels_own_c a0) fun (y1 : (List S49)) =>
  Option.bind (slices_SortStableFunc_c y1) fun (y10 : (List S49)) =>
  Option.bind (loopF 1000000 (labels_sorted_l45_c y10) ([], false, 0)) fun (r26 : (List S49) × Bool) =>
  some (r26.1, r26.2)
theorem labels_sorted_ev (a0 : List S49) : OLe (labels_sorted_c a0) (labels_sorted a0) := by
  unfold labels_sorted_c labels_sorted
  exact (OLe.bind (labels_own_ev _) (fun _ => (OLe.bind (slices_SortStableFunc_ev _) (fun _ => (OLe.bind (OLe.loop (fun _ => labels_sorted_l45_ev _ _)) (fun _ => (OLe.refl _)))))))
noncomputable def labels_Parse_c (a0 : ByteArray) : Option ((List S49) × Int × Int) :=
  bif (decide ((a0.size : Int) > 65536)) then
  (some ([], 4, 0))
  else
  (Option.bind (labels_reader_blanks_c (⟨a0, 0, (-1)⟩ : S89)) fun (y3 : S89) =>
    Option.bind (bif (decide (y3.f1 < (a0.size : Int))) then
      (Option.bind (bx a0 y3.f1) fun (c14 : Int) =>
        some (c14 == 123))
      else
      (some false)) fun (j8 : Bool) =>
    Option.bind (bif (!j8) then
      (Option.bind (labels_reader_name_c y3 true) fun (y26 : ByteArray × S89) =>
        Option.bind (app ([] : List S49) [(⟨(⟨#[95, 95, 110, 97, 109, 101, 95, 95]⟩ : ByteArray), y26.1⟩ : S49)]) fun (zs35 : List S49) =>
        Option.bind (labels_reader_blanks_c y26.2) fun (y41 : S89) =>
        some (zs35, y41.f0, y41.f1, y41.f2))
      else
      (some ([], y3.f0, y3.f1, y3.f2))) fun (j16 : (List S49) × ByteArray × Int × Int) =>
    Option.bind (labels_reader_next_c (⟨j16.2.1, j16.2.2.1, j16.2.2.2⟩ : S89) 123) fun (y46 : Bool × S89) =>
    Option.bind (bif y46.1 then
      (Option.bind (labels_reader_braces_c y46.2) fun (y61 : (List S49) × S89) =>
        Option.bind (app j16.1 y61.1) fun (zs70 : List S49) =>
        some (zs70, y61.2.f0, y61.2.f1, y61.2.f2))
      else
      (some (j16.1, y46.2.f0, y46.2.f1, y46.2.f2))) fun (j51 : (List S49) × ByteArray × Int × Int) =>
    Option.bind (labels_reader_blanks_c (⟨j51.2.1, j51.2.2.1, j51.2.2.2⟩ : S89)) fun (y76 : S89) =>
    Option.bind (bif ((decide (y76.f2 < 0)) && (decide (y76.f1 < (a0.size : Int)))) then
      (Option.bind (labels_reader_fail_c y76 y76.f1) fun (y93 : S89) =>
        some (y93.f0, y93.f1, y93.f2))
      else
      (some (y76.f0, y76.f1, y76.f2))) fun (j87 : ByteArray × Int × Int) =>
    bif (decide (j87.2.2 ≥ 0)) then
    (some ([], 3, j87.2.2))
    else
    (Option.bind (labels_sorted_c j51.1) fun (y103 : (List S49) × Bool) =>
      bif y103.2 then
      (some ([], 6, 0))
      else
      (Option.bind (labels_Right_c y103.1) fun (y113 : Int × Int) =>
        bif (y113.1 != 0) then
        (some ([], y113.1, y113.2))
        else
        (some (y103.1, 0, 0)))))
theorem labels_Parse_ev (a0 : ByteArray) : OLe (labels_Parse_c a0) (labels_Parse a0) := by
  unfold labels_Parse_c labels_Parse
  exact (OLe.cond (OLe.refl _) (OLe.bind (labels_reader_blanks_ev _) (fun _ => (OLe.bind (OLe.cond (OLe.bind (OLe.refl _) (fun _ => (OLe.refl _))) (OLe.refl _)) (fun _ => (OLe.bind (OLe.cond (OLe.bind (labels_reader_name_ev _ _) (fun _ => (OLe.bind (OLe.refl _) (fun _ => (OLe.bind (labels_reader_blanks_ev _) (fun _ => (OLe.refl _))))))) (OLe.refl _)) (fun _ => (OLe.bind (labels_reader_next_ev _ _) (fun _ => (OLe.bind (OLe.cond (OLe.bind (labels_reader_braces_ev _) (fun _ => (OLe.bind (OLe.refl _) (fun _ => (OLe.refl _))))) (OLe.refl _)) (fun _ => (OLe.bind (labels_reader_blanks_ev _) (fun _ => (OLe.bind (OLe.cond (OLe.bind (labels_reader_fail_ev _ _) (fun _ => (OLe.refl _))) (OLe.refl _)) (fun _ => (OLe.cond (OLe.refl _) (OLe.bind (labels_sorted_ev _) (fun _ => (OLe.cond (OLe.refl _) (OLe.bind (labels_Right_ev _) (fun _ => (OLe.cond (OLe.refl _) (OLe.refl _)))))))))))))))))))))))
noncomputable def labels_Get_l17_c (a0 : List S49) (a1 : ByteArray) : Int → Option ((Int) ⊕ ((Unit) ⊕ (ByteArray))) := fun s7 =>
  bif (decide (s7 < (a0.length : Int))) then
  (Option.bind (ix a0 s7) fun (x20 : S49) =>
    bif (x20.f0.toList == a1.toList) then
    (some (Sum.inr (Sum.inr x20.f1)))
    else
    (some (Sum.inl (IntKind.wrap .i64 (s7 + 1)))))
  else
  (some (Sum.inr (Sum.inl ())))
theorem labels_Get_l17_ev (a0 : List S49) (a1 : ByteArray) (s7 : Int) : OLe (labels_Get_l17_c a0 a1 s7) (labels_Get_l17 a0 a1 s7) := by
  unfold labels_Get_l17_c labels_Get_l17
  exact (OLe.cond (OLe.bind (OLe.refl _) (fun _ => (OLe.cond (OLe.refl _) (OLe.refl _)))) (OLe.refl _))
noncomputable def labels_Get_c (a0 : List S49) (a1 : ByteArray) : Option ByteArray :=
  Option.bind (loopF 1000000 (labels_Get_l17_c a0 a1) 0) fun (r5 : (Unit) ⊕ (ByteArray)) =>
  match r5 with
  | Sum.inl r13 => some (⟨#[]⟩ : ByteArray)
  | Sum.inr v30 => some v30
theorem labels_Get_ev (a0 : List S49) (a1 : ByteArray) : OLe (labels_Get_c a0 a1) (labels_Get a0 a1) := by
  unfold labels_Get_c labels_Get
  exact (OLe.bind (OLe.loop (fun _ => labels_Get_l17_ev _ _ _)) (fun j => by cases j with | inl a => exact (OLe.refl _) | inr b => exact (OLe.refl _)))
noncomputable def slices_Index_l17_c (a0 : List ByteArray) (a1 : ByteArray) : Int → Option ((Int) ⊕ ((Unit) ⊕ (Int))) := fun s7 =>
  bif (decide (s7 < (a0.length : Int))) then
  (Option.bind (ix a0 s7) fun (x20 : ByteArray) =>
    bif (a1.toList == x20.toList) then
    (some (Sum.inr (Sum.inr s7)))
    else
    (some (Sum.inl (IntKind.wrap .i64 (s7 + 1)))))
  else
  (some (Sum.inr (Sum.inl ())))
theorem slices_Index_l17_ev (a0 : List ByteArray) (a1 : ByteArray) (s7 : Int) : OLe (slices_Index_l17_c a0 a1 s7) (slices_Index_l17 a0 a1 s7) := by
  unfold slices_Index_l17_c slices_Index_l17
  exact (OLe.cond (OLe.bind (OLe.refl _) (fun _ => (OLe.cond (OLe.refl _) (OLe.refl _)))) (OLe.refl _))
noncomputable def slices_Index_c (a0 : List ByteArray) (a1 : ByteArray) : Option Int :=
  Option.bind (loopF 1000000 (slices_Index_l17_c a0 a1) 0) fun (r5 : (Unit) ⊕ (Int)) =>
  match r5 with
  | Sum.inl r13 => some (-1)
  | Sum.inr v29 => some v29
theorem slices_Index_ev (a0 : List ByteArray) (a1 : ByteArray) : OLe (slices_Index_c a0 a1) (slices_Index a0 a1) := by
  unfold slices_Index_c slices_Index
  exact (OLe.bind (OLe.loop (fun _ => slices_Index_l17_ev _ _ _)) (fun j => by cases j with | inl a => exact (OLe.refl _) | inr b => exact (OLe.refl _)))
noncomputable def slices_Contains_c (a0 : List ByteArray) (a1 : ByteArray) : Option Bool :=
  Option.bind (slices_Index_c a0 a1) fun (y1 : Int) =>
  some (decide (y1 ≥ 0))
theorem slices_Contains_ev (a0 : List ByteArray) (a1 : ByteArray) : OLe (slices_Contains_c a0 a1) (slices_Contains a0 a1) := by
  unfold slices_Contains_c slices_Contains
  exact (OLe.bind (slices_Index_ev _ _) (fun _ => (OLe.refl _)))
noncomputable def labels_pick_l28_c (a0 : List S49) (a1 : Bool) (a2 : List ByteArray) : ((List S49) × Int) → Option (((List S49) × Int) ⊕ ((List S49))) := fun s11 =>
  bif (decide (s11.2 < (a0.length : Int))) then
  (Option.bind (ix a0 s11.2) fun (x31 : S49) =>
    Option.bind (slices_Contains_c a2 x31.f0) fun (y40 : Bool) =>
    Option.bind (bif (y40 == a1) then
      (Option.bind (app s11.1 [x31]) fun (zs56 : List S49) =>
        some zs56)
      else
      (some s11.1)) fun (j42 : (List S49)) =>
    some (Sum.inl (j42, (IntKind.wrap .i64 (s11.2 + 1)))))
  else
  (some (Sum.inr s11.1))
theorem labels_pick_l28_ev (a0 : List S49) (a1 : Bool) (a2 : List ByteArray) (s11 : (List S49) × Int) : OLe (labels_pick_l28_c a0 a1 a2 s11) (labels_pick_l28 a0 a1 a2 s11) := by
  unfold labels_pick_l28_c labels_pick_l28
  exact (OLe.cond (OLe.bind (OLe.refl _) (fun _ => (OLe.bind (slices_Contains_ev _ _) (fun _ => (OLe.bind (OLe.cond (OLe.bind (OLe.refl _) (fun _ => (OLe.refl _))) (OLe.refl _)) (fun _ => (OLe.refl _))))))) (OLe.refl _))
noncomputable def labels_pick_c (a0 : List S49) (a1 : Bool) (a2 : List ByteArray) : Option (List S49) :=
  Option.bind (loopF 1000000 (labels_pick_l28_c a0 a1 a2) ([], 0)) fun (r9 : (List S49)) =>
  some r9
theorem labels_pick_ev (a0 : List S49) (a1 : Bool) (a2 : List ByteArray) : OLe (labels_pick_c a0 a1 a2) (labels_pick a0 a1 a2) := by
  unfold labels_pick_c labels_pick
  exact (OLe.bind (OLe.loop (fun _ => labels_pick_l28_ev _ _ _ _)) (fun _ => (OLe.refl _)))
noncomputable def labels_quoted_c (a0 : ByteArray) : Option ByteArray := labels_quoted a0
theorem labels_quoted_ev (a0 : ByteArray) : OLe (labels_quoted_c a0) (labels_quoted a0) := OLe.refl _
noncomputable def strings_Join_c (a0 : List ByteArray) (a1 : ByteArray) : Option ByteArray :=
  bif ((a0.length : Int) == 0) then
  (some (⟨#[]⟩ : ByteArray))
  else
  (bif ((a0.length : Int) == 1) then
    (Option.bind (ix a0 0) fun (x3 : ByteArray) =>
      some x3)
    else
    (none))
theorem strings_Join_ev (a0 : List ByteArray) (a1 : ByteArray) : OLe (strings_Join_c a0 a1) (strings_Join a0 a1) := by
  unfold strings_Join_c strings_Join
  exact (OLe.cond (OLe.refl _) (OLe.cond (OLe.bind (OLe.refl _) (fun _ => (OLe.refl _))) (OLe.refl _)))
noncomputable def labels_Print_l72_c (j8 : ByteArray × (List S49)) : ((List ByteArray) × Int) → Option (((List ByteArray) × Int) ⊕ ((List ByteArray))) := fun s55 =>
  bif (decide (s55.2 < (j8.2.length : Int))) then
  (Option.bind (ix j8.2 s55.2) fun (x75 : S49) =>
    Option.bind (sadd x75.f0 (⟨#[61]⟩ : ByteArray)) fun (s84 : ByteArray) =>
    Option.bind (labels_quoted_c x75.f1) fun (y86 : ByteArray) =>
    Option.bind (sadd s84 y86) fun (s88 : ByteArray) =>
    Option.bind (app s55.1 [s88]) fun (zs94 : List ByteArray) =>
    some (Sum.inl (zs94, (IntKind.wrap .i64 (s55.2 + 1)))))
  else
  (some (Sum.inr s55.1))
theorem labels_Print_l72_ev (j8 : ByteArray × (List S49)) (s55 : (List ByteArray) × Int) : OLe (labels_Print_l72_c j8 s55) (labels_Print_l72 j8 s55) := by
  unfold labels_Print_l72_c labels_Print_l72
  exact (OLe.cond (OLe.bind (OLe.refl _) (fun _ => (OLe.bind (OLe.refl _) (fun _ => (OLe.bind (labels_quoted_ev _) (fun _ => (OLe.bind (OLe.refl _) (fun _ => (OLe.bind (OLe.refl _) (fun _ => (OLe.refl _))))))))))) (OLe.refl _))
noncomputable def labels_Print_c (a0 : List S49) : Option (ByteArray × Int) :=
  Option.bind (labels_right_c a0) fun (y1 : Int) =>
  bif (y1 != 0) then
  (some ((⟨#[]⟩ : ByteArray), y1))
  else
  (Option.bind (labels_Get_c a0 (⟨#[95, 95, 110, 97, 109, 101, 95, 95]⟩ : ByteArray)) fun (y4 : ByteArray) =>
    Option.bind (labels_Metric_c y4) fun (y6 : Bool) =>
    Option.bind (bif y6 then
      (Option.bind (labels_pick_c a0 false [(⟨#[95, 95, 110, 97, 109, 101, 95, 95]⟩ : ByteArray)]) fun (y25 : (List S49)) =>
        some (y4, y25))
      else
      (some ((⟨#[]⟩ : ByteArray), a0))) fun (j8 : ByteArray × (List S49)) =>
    bif ((!(j8.1.toList == (⟨#[]⟩ : ByteArray).toList)) && ((j8.2.length : Int) == 0)) then
    (some (j8.1, 0))
    else
    (Option.bind (loopF 1000000 (labels_Print_l72_c j8) ([], 0)) fun (r53 : (List ByteArray)) =>
      Option.bind (sadd j8.1 (⟨#[123]⟩ : ByteArray)) fun (s100 : ByteArray) =>
      Option.bind (strings_Join_c r53 (⟨#[44]⟩ : ByteArray)) fun (y102 : ByteArray) =>
      Option.bind (sadd s100 y102) fun (s104 : ByteArray) =>
      Option.bind (sadd s104 (⟨#[125]⟩ : ByteArray)) fun (s106 : ByteArray) =>
      some (s106, 0)))
theorem labels_Print_ev (a0 : List S49) : OLe (labels_Print_c a0) (labels_Print a0) := by
  unfold labels_Print_c labels_Print
  exact (OLe.bind (labels_right_ev _) (fun _ => (OLe.cond (OLe.refl _) (OLe.bind (labels_Get_ev _ _) (fun _ => (OLe.bind (labels_Metric_ev _) (fun _ => (OLe.bind (OLe.cond (OLe.bind (labels_pick_ev _ _ _) (fun _ => (OLe.refl _))) (OLe.refl _)) (fun _ => (OLe.cond (OLe.refl _) (OLe.bind (OLe.loop (fun _ => labels_Print_l72_ev _ _)) (fun _ => (OLe.bind (OLe.refl _) (fun _ => (OLe.bind (strings_Join_ev _ _) (fun _ => (OLe.bind (OLe.refl _) (fun _ => (OLe.bind (OLe.refl _) (fun _ => (OLe.refl _)))))))))))))))))))))
noncomputable def labels_Hash_1_l16_c (a0 : ByteArray) : (Int × Int) → Option ((Int × Int) ⊕ (Int)) := fun s7 =>
  bif (decide (s7.2 < (a0.size : Int))) then
  (Option.bind (bx a0 s7.2) fun (c19 : Int) =>
    some (Sum.inl ((IntKind.wrap .u64 ((bitXor .u64 s7.1 (IntKind.wrap .u64 c19)) * 1099511628211)), (IntKind.wrap .i64 (s7.2 + 1)))))
  else
  (some (Sum.inr s7.1))
theorem labels_Hash_1_l16_ev (a0 : ByteArray) (s7 : Int × Int) : OLe (labels_Hash_1_l16_c a0 s7) (labels_Hash_1_l16 a0 s7) := by
  unfold labels_Hash_1_l16_c labels_Hash_1_l16
  exact (OLe.cond (OLe.bind (OLe.refl _) (fun _ => (OLe.refl _))) (OLe.refl _))
noncomputable def labels_Hash_1_c (a0 : ByteArray) (a1 : Int) : Option Int :=
  Option.bind (loopF 1000000 (labels_Hash_1_l16_c a0) (a1, 0)) fun (r5 : Int) =>
  some (IntKind.wrap .u64 ((bitXor .u64 r5 255) * 1099511628211))
theorem labels_Hash_1_ev (a0 : ByteArray) (a1 : Int) : OLe (labels_Hash_1_c a0 a1) (labels_Hash_1 a0 a1) := by
  unfold labels_Hash_1_c labels_Hash_1
  exact (OLe.bind (OLe.loop (fun _ => labels_Hash_1_l16_ev _ _)) (fun _ => (OLe.refl _)))
noncomputable def labels_Hash_l17_c (a0 : List S49) : (Int × Int) → Option ((Int × Int) ⊕ (Int)) := fun s8 =>
  bif (decide (s8.2 < (a0.length : Int))) then
  (Option.bind (ix a0 s8.2) fun (x20 : S49) =>
    Option.bind (labels_Hash_1_c x20.f0 s8.1) fun (y29 : Int) =>
    Option.bind (labels_Hash_1_c x20.f1 y29) fun (y34 : Int) =>
    some (Sum.inl (y34, (IntKind.wrap .i64 (s8.2 + 1)))))
  else
  (some (Sum.inr s8.1))
theorem labels_Hash_l17_ev (a0 : List S49) (s8 : Int × Int) : OLe (labels_Hash_l17_c a0 s8) (labels_Hash_l17 a0 s8) := by
  unfold labels_Hash_l17_c labels_Hash_l17
  exact (OLe.cond (OLe.bind (OLe.refl _) (fun _ => (OLe.bind (labels_Hash_1_ev _ _) (fun _ => (OLe.bind (labels_Hash_1_ev _ _) (fun _ => (OLe.refl _))))))) (OLe.refl _))
noncomputable def labels_Hash_c (a0 : List S49) : Option Int :=
  Option.bind (loopF 1000000 (labels_Hash_l17_c a0) (14695981039346656037, 0)) fun (r6 : Int) =>
  some r6
theorem labels_Hash_ev (a0 : List S49) : OLe (labels_Hash_c a0) (labels_Hash a0) := by
  unfold labels_Hash_c labels_Hash
  exact (OLe.bind (OLe.loop (fun _ => labels_Hash_l17_ev _ _)) (fun _ => (OLe.refl _)))
noncomputable def tocsinlaw04_awake_c : Option Bool :=
  Option.bind (labels_Parse_c (⟨#[117, 112, 32, 123, 32, 106, 111, 98, 32, 61, 32, 34, 120, 34, 32, 44, 32, 125]⟩ : ByteArray)) fun (y1 : (List S49) × Int × Int) =>
  Option.bind (labels_Print_c y1.1) fun (y10 : ByteArray × Int) =>
  Option.bind (bif (y1.2.1 == 0) then
    (bif (y10.2 == 0) then
      (bif (y10.1.toList == (⟨#[117, 112, 123, 106, 111, 98, 61, 34, 120, 34, 125]⟩ : ByteArray).toList) then
        (Option.bind (labels_Get_c y1.1 (⟨#[106, 111, 98]⟩ : ByteArray)) fun (y20 : ByteArray) =>
          bif (y20.toList == (⟨#[120]⟩ : ByteArray).toList) then
          (Option.bind (labels_Hash_c []) fun (y23 : Int) =>
            some (y23 == 14695981039346656037))
          else
          (some false))
        else
        (some false))
      else
      (some false))
    else
    (some false)) fun (j12 : Bool) =>
  some j12
theorem tocsinlaw04_awake_ev  : OLe (tocsinlaw04_awake_c ) (tocsinlaw04_awake ) := by
  unfold tocsinlaw04_awake_c tocsinlaw04_awake
  exact (OLe.bind (labels_Parse_ev _) (fun _ => (OLe.bind (labels_Print_ev _) (fun _ => (OLe.bind (OLe.cond (OLe.cond (OLe.cond (OLe.bind (labels_Get_ev _ _) (fun _ => (OLe.cond (OLe.bind (labels_Hash_ev _) (fun _ => (OLe.refl _))) (OLe.refl _)))) (OLe.refl _)) (OLe.refl _)) (OLe.refl _)) (fun _ => (OLe.refl _)))))))
end Go.Proofs.YtnlkfajnaelnnaaGreatDoor

namespace Go.Proofs.YtnlkfajnaelnnaaGreatDoor
open Go.GB
theorem awake04 : tocsinlaw04_awake = some true := tocsinlaw04_awake_ev _ (by kernel_rfl)
end Go.Proofs.YtnlkfajnaelnnaaGreatDoor

set_option linter.unusedVariables false
set_option maxRecDepth 100000
namespace Go.Proofs.YtnlkfajnaelnnaaGreatDoor
open Go.GB Go.Lib
theorem bytes_core (b : List Int) (at_ : Int) (l : List LB) (hb : Bytes b) (hl : l.length < 2147483600) (hbl : b.length ≤ 2147400000) : tocsinlaw04_LabelsBytes b at_ l = some true := by
  obtain ⟨v, h1, h2, h3⟩ := Read_both hb (by omega) at_
  have hv : v.1.length < 4294967296 := by
    rcases h3 with h | h
    · omega
    · rw [h.2.1]; simp
  have hlx : lx (b ++ [77]) 0 (b.length : Int) = some b := by
    unfold lx; rw [if_pos (by simp; omega)]; simp
  have hix : ix (b ++ [77]) (b.length : Int) = some 77 := ix_at (A := b) (B := []) rfl rfl
  have hloop : ∀ (y : List Int × Int), y.1.length < 2147483648 → loopO (tocsinlaw04_LabelsBytes_l131 y) (y.1, 0) = some () := by
    intro y hy
    have key : ∀ d i : Nat, ∀ m : List Int, y.1.length - i = d → i ≤ y.1.length → m.length = y.1.length → loopO (tocsinlaw04_LabelsBytes_l131 y) (m, (i : Int)) = some () := by
      intro d
      induction d with
      | zero =>
        intro i m hd hi hm
        refine loopO_done ?_
        unfold tocsinlaw04_LabelsBytes_l131
        rw [show decide ((i : Int) < (y.1.length : Int)) = false from decide_eq_false (by omega)]; rfl
      | succ d ih =>
        intro i m hd hi hm
        have hlt : i < m.length := by omega
        rw [loopO_step (s' := (lset m (i : Int) 99, ((i + 1 : Nat) : Int))) (by
          unfold tocsinlaw04_LabelsBytes_l131
          rw [show decide ((i : Int) < (y.1.length : Int)) = true from decide_eq_true (by omega)]
          simp only [cond_true, ix_nat, List.getElem?_eq_getElem hlt, Option.bind_some, wrap_up (show i < 4294967296 by omega)])]
        exact ih (i + 1) _ (by omega) (by omega) (by rw [lset_length]; exact hm)
    exact key y.1.length 0 y.1 (by omega) (by omega) rfl
  have hput : (if (rightE l).1 = 0 then b ++ encL l else []).length < 2147483648 := by
    by_cases h0 : (rightE l).1 = 0
    · rw [if_pos h0, List.length_append]; have := encL_len h0; omega
    · rw [if_neg h0]; simp
  have hloop' := hloop (if (rightE l).1 = 0 then b ++ encL l else [], (rightE l).1) hput
  unfold tocsinlaw04_LabelsBytes
  rw [app_eq (by simp; omega)]
  simp only [Option.bind_some, List.nil_append]
  rw [app_eq (by simp; omega)]
  simp only [Option.bind_some, Lent_eq l (by omega), hlx, Put_eq (show b.length ≤ 2147470000 by omega), refPut_eq (show b.length ≤ 2147470000 by omega), h1, h2, beq_self_eq_true, Bool.not_true, cond_false, bne_self_eq_false, same_self v.1 hv, Kept_eq l (by omega), hix, hloop', cond_true, awake04]
theorem Bytes_read {l : List Int} {n : Nat} (h : wSl (wInt .u8) l n) : Bytes l := fun x hx => by
  obtain ⟨a, ha, _⟩ := h.mem hx
  have h1 : IntKind.u8.min ≤ x := ha.1
  have h2 : x ≤ IntKind.u8.max := ha.2
  have e1 : IntKind.u8.min = 0 := by decide
  have e2 : IntKind.u8.max = 255 := by decide
  omega
theorem tocsinlaw04_LabelsBytes_true {I : Imm} {c0 c1 c2 : List Value} {n0 n1 n2 : Nat} (a0 : List Int) (a1 : Int) (a2 : List S49) (h0 : (Kd.sl (Kd.int .u8)).R I a0 c0) (h1 : (Kd.int .i64).R I a1 c1) (h2 : (Kd.sl kS49).R I a2 c2)
    (w0 : wSl (wInt .u8) a0 n0) (w1 : wInt .i64 a1 n1) (w2 : wSl wS49 a2 n2) (hn : n0 + n1 + n2 ≤ 1048576) : tocsinlaw04_LabelsBytes a0 a1 a2 = some true :=
  bytes_core a0 a1 a2 (Bytes_read w0) (by have := w2.len; omega) (by have := w0.len; omega)
end Go.Proofs.YtnlkfajnaelnnaaGreatDoor
