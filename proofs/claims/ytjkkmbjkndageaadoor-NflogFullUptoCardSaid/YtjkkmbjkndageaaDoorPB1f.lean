/- Plain laws: the document's Utf8 is the library's. -/
import Derived.Test.YtjkkmbjkndageaaDoorF1
import Derived.Test.YtjkkmbjkndageaaDoorPA1
import Derived.Lib.ValidLaws
set_option linter.unusedVariables false
set_option linter.unusedSimpArgs false
set_option maxRecDepth 100000
namespace Go.Proofs.YtjkkmbjkndageaaDoor
open Go.GB Go.Lib
/-- The byte at a place, 0 behind the end. -/
def bat (s : ByteArray) (i : Nat) : Nat := (s.data.toList.getD i 0).toNat
theorem bat_lt (s : ByteArray) (i : Nat) : bat s i < 256 := UInt8.toNat_lt _
theorem bx_bat {s : ByteArray} {i : Nat} (h : i < s.size) : bx s (i : Int) = some ((bat s i : Nat) : Int) := bx_at h
theorem fin_and {P : Nat → Prop} (h : ∀ c : Fin 256, P c.val) {n : Nat} (hn : n < 256) : P n := h ⟨n, hn⟩
theorem l79_end {s : ByteArray} {i n least r0 : Nat} {r k : Nat} (h : n < k) (hk : k < 100) : loopO (tocsinref01_Utf8_l79 s (i : Int) ((n : Int), (least : Int), (r0 : Int))) ((r : Int), (k : Int)) = some (.inl (r : Int)) := by
  refine loopO_done ?_
  unfold tocsinref01_Utf8_l79
  rw [show decide (((r : Int), (k : Int)).2 ≤ ((n : Int), (least : Int), (r0 : Int)).1) = false from decide_eq_false (by show ¬ ((k : Int) ≤ (n : Int)); omega)]
  rfl
theorem l79_step {s : ByteArray} {i n least r0 : Nat} {r k : Nat} (hs : s.size < 4611686018427387904) (hi : i < s.size) (h : k ≤ n) (hn : n ≤ 3) (hr : r < 16777216) :
    tocsinref01_Utf8_l79 s (i : Int) ((n : Int), (least : Int), (r0 : Int)) ((r : Int), (k : Int)) =
      if i + k < s.size ∧ bat s (i + k) / 64 = 2 then some (.inl (((r * 64 + bat s (i + k) % 64 : Nat) : Int), ((k + 1 : Nat) : Int))) else some (.inr (.inr (.inr (.inr (.inr false))))) := by
  unfold tocsinref01_Utf8_l79
  simp only
  rw [show decide ((k : Int) ≤ (n : Int)) = true from decide_eq_true (by omega)]
  have e1 : IntKind.wrap .i64 ((i : Int) + (k : Int)) = ((i + k : Nat) : Int) := by rw [wrap64 (by omega) (by omega)]; omega
  simp only [cond_true, e1]
  by_cases hlt : i + k < s.size
  · rw [show decide (((i + k : Nat) : Int) ≥ (s.size : Int)) = false from decide_eq_false (by omega)]
    have hb := bat_lt s (i + k)
    have h1 : (bitAnd .u8 ((bat s (i + k) : Nat) : Int) 192 != 128) = !(decide (bat s (i + k) / 64 = 2)) := fin_and (P := fun n => (bitAnd .u8 ((n : Nat) : Int) 192 != 128) = !(decide (n / 64 = 2))) and192 hb
    have h2 : bitAnd .u8 ((bat s (i + k) : Nat) : Int) 63 = ((bat s (i + k) % 64 : Nat) : Int) := fin_and (P := fun n => bitAnd .u8 ((n : Nat) : Int) 63 = ((n % 64 : Nat) : Int)) and63 hb
    simp only [cond_false, bx_bat hlt, Option.bind_some, h1, h2]
    by_cases hc : bat s (i + k) / 64 = 2
    · rw [if_pos ⟨hlt, hc⟩]
      simp only [hc, decide_true, Bool.not_true, cond_false, bx_bat hlt, Option.bind_some, h2]
      have e2 : IntKind.wrap .i64 ((r : Int) * 64) = ((r * 64 : Nat) : Int) := by rw [wrap64 (by omega) (by omega)]; omega
      have e3 : IntKind.wrap .i64 ((bat s (i + k) % 64 : Nat) : Int) = ((bat s (i + k) % 64 : Nat) : Int) := wrap64 (by omega) (by omega)
      have e4 : IntKind.wrap .i64 (((r * 64 : Nat) : Int) + ((bat s (i + k) % 64 : Nat) : Int)) = ((r * 64 + bat s (i + k) % 64 : Nat) : Int) := by rw [wrap64 (by omega) (by omega)]; omega
      have e5 : IntKind.wrap .i64 ((k : Int) + 1) = ((k + 1 : Nat) : Int) := wrap_up (by omega)
      rw [e2, e3, e4, e5]
    · rw [if_neg (fun h => hc h.2)]
      simp only [hc, decide_false, Bool.not_false, cond_true]
  · rw [show decide (((i + k : Nat) : Int) ≥ (s.size : Int)) = true from decide_eq_true (by omega), if_neg (fun h => hlt h.1)]
    simp
/-- What a lead byte says: how many follow, the least, what it bears. -/
def leadN (c : Nat) : Option (Nat × Nat × Nat) := if 194 ≤ c ∧ c < 224 then some (1, 128, c % 32) else if 224 ≤ c ∧ c < 240 then some (2, 2048, c % 16) else if 240 ≤ c ∧ c < 245 then some (3, 65536, c % 8) else none
theorem l79_all {s : ByteArray} {i n least r0 : Nat} (hs : s.size < 4611686018427387904) (hi : i < s.size) (hn : 1 ≤ n ∧ n ≤ 3) (hr : r0 < 32) :
    loopO (tocsinref01_Utf8_l79 s (i : Int) ((n : Int), (least : Int), (r0 : Int))) ((r0 : Int), 1) =
      if (i + 1 < s.size ∧ bat s (i + 1) / 64 = 2) ∧ (2 ≤ n → i + 2 < s.size ∧ bat s (i + 2) / 64 = 2) ∧ (3 ≤ n → i + 3 < s.size ∧ bat s (i + 3) / 64 = 2) then
        some (.inl ((if n = 1 then r0 * 64 + bat s (i + 1) % 64 else if n = 2 then (r0 * 64 + bat s (i + 1) % 64) * 64 + bat s (i + 2) % 64 else ((r0 * 64 + bat s (i + 1) % 64) * 64 + bat s (i + 2) % 64) * 64 + bat s (i + 3) % 64 : Nat) : Int))
      else some (.inr (.inr (.inr (.inr false)))) := by
  have h1 := l79_step (s := s) (i := i) (n := n) (least := least) (r0 := r0) (r := r0) (k := 1) hs hi (by omega) hn.2 (by omega)
  by_cases c1 : i + 1 < s.size ∧ bat s (i + 1) / 64 = 2
  · rw [if_pos c1] at h1
    rw [show (1 : Int) = ((1 : Nat) : Int) from rfl, loopO_step h1]
    have b1 := bat_lt s (i + 1)
    by_cases n1 : n = 1
    · subst n1
      rw [l79_end (by omega) (by omega), if_pos ⟨c1, by omega, by omega⟩, if_pos rfl]
    · have h2 := l79_step (s := s) (i := i) (n := n) (least := least) (r0 := r0) (r := r0 * 64 + bat s (i + 1) % 64) (k := 2) hs hi (by omega) hn.2 (by omega)
      by_cases c2 : i + 2 < s.size ∧ bat s (i + 2) / 64 = 2
      · rw [if_pos c2] at h2
        rw [show ((1 + 1 : Nat) : Int) = ((2 : Nat) : Int) from rfl, loopO_step h2]
        have b2 := bat_lt s (i + 2)
        by_cases n2 : n = 2
        · subst n2
          rw [l79_end (by omega) (by omega), if_pos ⟨c1, fun _ => c2, by omega⟩]
          rfl
        · have h3 := l79_step (s := s) (i := i) (n := n) (least := least) (r0 := r0) (r := (r0 * 64 + bat s (i + 1) % 64) * 64 + bat s (i + 2) % 64) (k := 3) hs hi (by omega) hn.2 (by omega)
          by_cases c3 : i + 3 < s.size ∧ bat s (i + 3) / 64 = 2
          · rw [if_pos c3] at h3
            rw [show ((2 + 1 : Nat) : Int) = ((3 : Nat) : Int) from rfl, loopO_step h3, l79_end (by omega) (by omega), if_pos ⟨c1, fun _ => c2, fun _ => c3⟩, if_neg n1, if_neg n2]
          · rw [if_neg c3] at h3
            rw [show ((2 + 1 : Nat) : Int) = ((3 : Nat) : Int) from rfl, loopO_done h3, if_neg (fun h => c3 (h.2.2 (by omega)))]
      · rw [if_neg c2] at h2
        rw [show ((1 + 1 : Nat) : Int) = ((2 : Nat) : Int) from rfl, loopO_done h2, if_neg (fun h => c2 (h.2.1 (by omega)))]
  · rw [if_neg c1] at h1
    rw [show (1 : Int) = ((1 : Nat) : Int) from rfl, loopO_done h1, if_neg (fun h => c1 h.1)]
def contN (s : ByteArray) (i n least r0 : Nat) : Option Nat :=
  if (i + 1 < s.size ∧ bat s (i + 1) / 64 = 2) ∧ (2 ≤ n → i + 2 < s.size ∧ bat s (i + 2) / 64 = 2) ∧ (3 ≤ n → i + 3 < s.size ∧ bat s (i + 3) / 64 = 2) then
    (let r := if n = 1 then r0 * 64 + bat s (i + 1) % 64 else if n = 2 then (r0 * 64 + bat s (i + 1) % 64) * 64 + bat s (i + 2) % 64 else ((r0 * 64 + bat s (i + 1) % 64) * 64 + bat s (i + 2) % 64) * 64 + bat s (i + 3) % 64
     if r < least ∨ r > 1114111 ∨ (55296 ≤ r ∧ r < 57344) then none else some (i + n + 1))
  else none
/-- One round of the document's loop: the place behind the rune, or none. -/
def stepN (s : ByteArray) (i : Nat) : Option Nat :=
  if bat s i < 128 then some (i + 1) else match leadN (bat s i) with
    | none => none
    | some (n, least, r0) => contN s i n least r0
theorem l17_tail {s : ByteArray} {i n least r0 : Nat} (hs : s.size < 4611686018427387904) (hi : i < s.size) (hn : 1 ≤ n ∧ n ≤ 3) (hr : r0 < 32) (hl : least ≤ 65536) {X : Option ((Int) ⊕ ((Int) ⊕ ((Unit) ⊕ (Bool))))}
    (hX : X = Option.bind (loopO (tocsinref01_Utf8_l79 s (i : Int) ((n : Int), (least : Int), (r0 : Int))) ((r0 : Int), 1)) fun (r67 : (Int) ⊕ ((Int) ⊕ ((Int) ⊕ ((Unit) ⊕ (Bool))))) =>
          match r67 with
          | Sum.inl r75 => bif (((decide (r75 < (least : Int))) || (decide (r75 > 1114111))) || ((decide (r75 ≥ 55296)) && (decide (r75 < 57344)))) then
            (some (Sum.inr (Sum.inr (Sum.inr false))))
            else
            (some (Sum.inl (IntKind.wrap .i64 ((IntKind.wrap .i64 ((i : Int) + (n : Int))) + 1))))
          | Sum.inr v102 => some v102) :
    X = match contN s i n least r0 with
      | some j => some (Sum.inl (j : Int))
      | none => some (Sum.inr (Sum.inr (Sum.inr false))) := by
  subst hX
  rw [l79_all hs hi hn hr]
  unfold contN
  split
  · simp only [Option.bind_some]
    generalize (if n = 1 then r0 * 64 + bat s (i + 1) % 64 else if n = 2 then (r0 * 64 + bat s (i + 1) % 64) * 64 + bat s (i + 2) % 64 else ((r0 * 64 + bat s (i + 1) % 64) * 64 + bat s (i + 2) % 64) * 64 + bat s (i + 3) % 64) = r
    have e1 : IntKind.wrap .i64 (IntKind.wrap .i64 ((i : Int) + (n : Int)) + 1) = ((i + n + 1 : Nat) : Int) := by
      rw [wrap64 (x := (i : Int) + (n : Int)) (by omega) (by omega), wrap64 (by omega) (by omega)]; omega
    rw [e1]
    by_cases hb : r < least ∨ r > 1114111 ∨ (55296 ≤ r ∧ r < 57344)
    · rw [if_pos hb]
      have : (((decide ((r : Int) < (least : Int))) || (decide ((r : Int) > 1114111))) || ((decide ((r : Int) ≥ 55296)) && (decide ((r : Int) < 57344)))) = true := by
        simp only [Bool.or_eq_true, Bool.and_eq_true, decide_eq_true_eq]; omega
      rw [this]; rfl
    · rw [if_neg hb]
      have : (((decide ((r : Int) < (least : Int))) || (decide ((r : Int) > 1114111))) || ((decide ((r : Int) ≥ 55296)) && (decide ((r : Int) < 57344)))) = false := by
        rw [Bool.eq_false_iff]
        simp only [ne_eq, Bool.or_eq_true, Bool.and_eq_true, decide_eq_true_eq]; omega
      rw [this]; rfl
  · rfl
theorem l17_round {s : ByteArray} {i : Nat} (hs : s.size < 4611686018427387904) (hi : i < s.size) :
    tocsinref01_Utf8_l17 s (i : Int) = match stepN s i with | some j => some (.inl (j : Int)) | none => some (.inr (.inr false)) := by
  unfold tocsinref01_Utf8_l17
  have hb := bat_lt s i
  have w1 : IntKind.wrap .i64 ((bat s i : Nat) : Int) = ((bat s i : Nat) : Int) := wrap64 (by omega) (by omega)
  rw [show decide ((i : Int) < (s.size : Int)) = true from decide_eq_true (by omega)]
  simp only [cond_true, bx_bat hi, Option.bind_some, w1]
  unfold stepN
  by_cases h0 : bat s i < 128
  · rw [if_pos h0, show decide (((bat s i : Nat) : Int) < 128) = true from decide_eq_true (by omega), show IntKind.wrap .i64 ((i : Int) + 1) = ((i + 1 : Nat) : Int) from by rw [wrap64 (by omega) (by omega)]; omega]
    rfl
  · rw [if_neg h0, show decide (((bat s i : Nat) : Int) < 128) = false from decide_eq_false (by omega)]
    simp only [cond_false]
    have a31 : bitAnd .i64 ((bat s i : Nat) : Int) 31 = ((bat s i % 32 : Nat) : Int) := fin_and (P := fun n => bitAnd .i64 ((n : Nat) : Int) 31 = ((n % 32 : Nat) : Int)) and31 hb
    have a15 : bitAnd .i64 ((bat s i : Nat) : Int) 15 = ((bat s i % 16 : Nat) : Int) := fin_and (P := fun n => bitAnd .i64 ((n : Nat) : Int) 15 = ((n % 16 : Nat) : Int)) and15 hb
    have a7 : bitAnd .i64 ((bat s i : Nat) : Int) 7 = ((bat s i % 8 : Nat) : Int) := fin_and (P := fun n => bitAnd .i64 ((n : Nat) : Int) 7 = ((n % 8 : Nat) : Int)) Go.GB.and7 hb
    simp only [a31, a15, a7]
    unfold leadN
    by_cases c1 : 194 ≤ bat s i ∧ bat s i < 224
    · have : ((decide (((bat s i : Nat) : Int) ≥ 194)) && (decide (((bat s i : Nat) : Int) < 224))) = true := by simp only [Bool.and_eq_true, decide_eq_true_eq]; omega
      simp only [this, cond_true, Option.bind_some, if_pos c1]
      have hT := l17_tail (s := s) (i := i) (n := 1) (least := 128) (r0 := bat s i % 32) hs hi (by omega) (by omega) (by omega) rfl
      simp only [show ((1 : Nat) : Int) = 1 from rfl, show ((128 : Nat) : Int) = 128 from rfl] at hT
      refine Eq.trans (congrArg (fun X => Option.bind X _) hT) ?_
      cases contN s i 1 128 (bat s i % 32) <;> rfl
    · have f1 : ((decide (((bat s i : Nat) : Int) ≥ 194)) && (decide (((bat s i : Nat) : Int) < 224))) = false := by rw [Bool.eq_false_iff]; simp only [ne_eq, Bool.and_eq_true, decide_eq_true_eq]; omega
      simp only [f1, cond_false, if_neg c1]
      by_cases c2 : 224 ≤ bat s i ∧ bat s i < 240
      · have : ((decide (((bat s i : Nat) : Int) ≥ 224)) && (decide (((bat s i : Nat) : Int) < 240))) = true := by simp only [Bool.and_eq_true, decide_eq_true_eq]; omega
        simp only [this, cond_true, Option.bind_some, if_pos c2]
        have hT := l17_tail (s := s) (i := i) (n := 2) (least := 2048) (r0 := bat s i % 16) hs hi (by omega) (by omega) (by omega) rfl
        simp only [show ((2 : Nat) : Int) = 2 from rfl, show ((2048 : Nat) : Int) = 2048 from rfl] at hT
        refine Eq.trans (congrArg (fun X => Option.bind X _) hT) ?_
        cases contN s i 2 2048 (bat s i % 16) <;> rfl
      · have f2 : ((decide (((bat s i : Nat) : Int) ≥ 224)) && (decide (((bat s i : Nat) : Int) < 240))) = false := by rw [Bool.eq_false_iff]; simp only [ne_eq, Bool.and_eq_true, decide_eq_true_eq]; omega
        simp only [f2, cond_false, if_neg c2]
        by_cases c3 : 240 ≤ bat s i ∧ bat s i < 245
        · have : ((decide (((bat s i : Nat) : Int) ≥ 240)) && (decide (((bat s i : Nat) : Int) < 245))) = true := by simp only [Bool.and_eq_true, decide_eq_true_eq]; omega
          simp only [this, cond_true, Option.bind_some, if_pos c3]
          have hT := l17_tail (s := s) (i := i) (n := 3) (least := 65536) (r0 := bat s i % 8) hs hi (by omega) (by omega) (by omega) rfl
          simp only [show ((3 : Nat) : Int) = 3 from rfl, show ((65536 : Nat) : Int) = 65536 from rfl] at hT
          refine Eq.trans (congrArg (fun X => Option.bind X _) hT) ?_
          cases contN s i 3 65536 (bat s i % 8) <;> rfl
        · have f3 : ((decide (((bat s i : Nat) : Int) ≥ 240)) && (decide (((bat s i : Nat) : Int) < 245))) = false := by rw [Bool.eq_false_iff]; simp only [ne_eq, Bool.and_eq_true, decide_eq_true_eq]; omega
          simp only [f3, cond_false, if_neg c3, Option.bind_some]
theorem getD_drop (l : List UInt8) (i k : Nat) : (l.drop i).getD k 0 = l.getD (i + k) 0 := by simp [List.getD_eq_getElem?_getD, List.getElem?_drop]
theorem dec2 {n c b1 b2 b3 : Nat} (hc : 194 ≤ c ∧ c < 224) : decodeN n c b1 b2 b3 = if 1 < n ∧ b1 / 64 = 2 then (c % 32 * 64 + b1 % 64, 2) else (65533, 1) := by
  unfold decodeN
  rw [if_neg (by omega)]
  by_cases h : 1 < n ∧ b1 / 64 = 2
  · rw [if_pos ⟨by omega, h⟩, if_pos (by omega), if_pos h]
  · rw [if_neg (fun g => h g.2), if_neg (fun g => h g.2.1), if_neg (fun g => h g.2.1), if_neg h]
theorem dec3 {n c b1 b2 b3 : Nat} (hc : 224 ≤ c ∧ c < 240) : decodeN n c b1 b2 b3 = if (1 < n ∧ b1 / 64 = 2) ∧ (2 < n ∧ b2 / 64 = 2) then
    (if (c % 16 * 64 + b1 % 64) * 64 + b2 % 64 < 2048 ∨ (55296 ≤ (c % 16 * 64 + b1 % 64) * 64 + b2 % 64 ∧ (c % 16 * 64 + b1 % 64) * 64 + b2 % 64 < 57344) then (65533, 1) else ((c % 16 * 64 + b1 % 64) * 64 + b2 % 64, 3)) else (65533, 1) := by
  unfold decodeN
  rw [if_neg (by omega), if_neg (by omega)]
  by_cases h : (1 < n ∧ b1 / 64 = 2) ∧ (2 < n ∧ b2 / 64 = 2)
  · rw [if_pos ⟨by omega, h⟩, if_pos h]
    have e : c % 16 * 4096 + b1 % 64 * 64 + b2 % 64 = (c % 16 * 64 + b1 % 64) * 64 + b2 % 64 := by omega
    rw [e]
    by_cases h2 : (c % 16 * 64 + b1 % 64) * 64 + b2 % 64 < 2048 ∨ (55296 ≤ (c % 16 * 64 + b1 % 64) * 64 + b2 % 64 ∧ (c % 16 * 64 + b1 % 64) * 64 + b2 % 64 < 57344)
    · rw [if_pos h2, if_neg (by omega)]
    · rw [if_neg h2, if_pos (by omega)]
  · rw [if_neg (fun g => h g.2), if_neg (fun g => h ⟨g.2.1, g.2.2.1⟩), if_neg h]
theorem dec4 {n c b1 b2 b3 : Nat} (hc : 240 ≤ c ∧ c < 245) : decodeN n c b1 b2 b3 = if (1 < n ∧ b1 / 64 = 2) ∧ (2 < n ∧ b2 / 64 = 2) ∧ (3 < n ∧ b3 / 64 = 2) then
    (if ((c % 8 * 64 + b1 % 64) * 64 + b2 % 64) * 64 + b3 % 64 < 65536 ∨ 1114111 < ((c % 8 * 64 + b1 % 64) * 64 + b2 % 64) * 64 + b3 % 64 then (65533, 1) else (((c % 8 * 64 + b1 % 64) * 64 + b2 % 64) * 64 + b3 % 64, 4)) else (65533, 1) := by
  unfold decodeN
  rw [if_neg (by omega), if_neg (by omega), if_neg (by omega)]
  by_cases h : (1 < n ∧ b1 / 64 = 2) ∧ (2 < n ∧ b2 / 64 = 2) ∧ (3 < n ∧ b3 / 64 = 2)
  · rw [if_pos ⟨by omega, h⟩, if_pos h]
    have e : c % 8 * 262144 + b1 % 64 * 4096 + b2 % 64 * 64 + b3 % 64 = ((c % 8 * 64 + b1 % 64) * 64 + b2 % 64) * 64 + b3 % 64 := by omega
    rw [e]
    by_cases h2 : ((c % 8 * 64 + b1 % 64) * 64 + b2 % 64) * 64 + b3 % 64 < 65536 ∨ 1114111 < ((c % 8 * 64 + b1 % 64) * 64 + b2 % 64) * 64 + b3 % 64
    · rw [if_pos h2, if_neg (by omega)]
    · rw [if_neg h2, if_pos (by omega)]
  · rw [if_neg (fun g => h g.2), if_neg h]
set_option maxHeartbeats 1000000 in
/-- The document's round and the library's are one. -/
theorem stepN_valid {s : ByteArray} {i : Nat} (hi : i < s.size) : validD (s.data.toList.drop i) = match stepN s i with | some j => validD (s.data.toList.drop j) | none => false := by
  have hl : s.data.toList.length = s.size := size_list s
  have hne : s.data.toList.drop i ≠ [] := by intro h; have := congrArg List.length h; simp at this; omega
  have hlen : (s.data.toList.drop i).length = s.size - i := by rw [List.length_drop, hl]
  rw [validD_step _ hne, decodeL_N, hlen]
  simp only [getD_drop, Nat.add_zero]
  have b0 := bat_lt s i
  change (if (decodeN (s.size - i) (bat s i) (bat s (i + 1)) (bat s (i + 2)) (bat s (i + 3))).1 = 65533 ∧ (decodeN (s.size - i) (bat s i) (bat s (i + 1)) (bat s (i + 2)) (bat s (i + 3))).2 = 1 then false else validD ((s.data.toList.drop i).drop (decodeN (s.size - i) (bat s i) (bat s (i + 1)) (bat s (i + 2)) (bat s (i + 3))).2)) = _
  rw [List.drop_drop]
  unfold stepN leadN
  by_cases h0 : bat s i < 128
  · rw [if_pos h0, show decodeN (s.size - i) (bat s i) (bat s (i + 1)) (bat s (i + 2)) (bat s (i + 3)) = (bat s i, 1) from by unfold decodeN; rw [if_pos h0]]
    rw [if_neg (by simp; omega)]
  · rw [if_neg h0]
    by_cases c1 : 194 ≤ bat s i ∧ bat s i < 224
    · rw [if_pos c1, dec2 c1]
      show _ = match contN s i 1 128 (bat s i % 32) with | some j => validD (s.data.toList.drop j) | none => false
      by_cases k1 : i + 1 < s.size ∧ bat s (i + 1) / 64 = 2
      · have e : contN s i 1 128 (bat s i % 32) = some (i + 1 + 1) := by
          unfold contN
          rw [if_pos ⟨k1, by omega, by omega⟩]
          simp only [if_true]
          rw [if_neg (by omega)]
        rw [e, if_pos (show 1 < s.size - i ∧ bat s (i + 1) / 64 = 2 from ⟨by omega, k1.2⟩), if_neg (by simp)]; rfl
      · have e : contN s i 1 128 (bat s i % 32) = none := by
          unfold contN
          rw [if_neg (fun g => k1 g.1)]
        rw [e, if_neg (show ¬ (1 < s.size - i ∧ bat s (i + 1) / 64 = 2) from fun g => k1 ⟨by omega, g.2⟩), if_pos ⟨rfl, rfl⟩]
    · rw [if_neg c1]
      by_cases c2 : 224 ≤ bat s i ∧ bat s i < 240
      · rw [if_pos c2, dec3 c2]
        show _ = match contN s i 2 2048 (bat s i % 16) with | some j => validD (s.data.toList.drop j) | none => false
        by_cases k1 : (i + 1 < s.size ∧ bat s (i + 1) / 64 = 2) ∧ (i + 2 < s.size ∧ bat s (i + 2) / 64 = 2)
        · rw [if_pos (show (1 < s.size - i ∧ bat s (i + 1) / 64 = 2) ∧ (2 < s.size - i ∧ bat s (i + 2) / 64 = 2) from ⟨⟨by omega, k1.1.2⟩, by omega, k1.2.2⟩)]
          by_cases k2 : (bat s i % 16 * 64 + bat s (i + 1) % 64) * 64 + bat s (i + 2) % 64 < 2048 ∨ (55296 ≤ (bat s i % 16 * 64 + bat s (i + 1) % 64) * 64 + bat s (i + 2) % 64 ∧ (bat s i % 16 * 64 + bat s (i + 1) % 64) * 64 + bat s (i + 2) % 64 < 57344)
          · have e : contN s i 2 2048 (bat s i % 16) = none := by
              unfold contN
              rw [if_pos ⟨k1.1, fun _ => k1.2, by omega⟩]
              simp only [show ¬ (2 : Nat) = 1 from by omega, if_false, if_true]
              rw [if_pos (by omega)]
            rw [e, if_pos k2, if_pos ⟨rfl, rfl⟩]
          · have e : contN s i 2 2048 (bat s i % 16) = some (i + 2 + 1) := by
              unfold contN
              rw [if_pos ⟨k1.1, fun _ => k1.2, by omega⟩]
              simp only [show ¬ (2 : Nat) = 1 from by omega, if_false, if_true]
              rw [if_neg (by omega)]
            rw [e, if_neg k2, if_neg (by simp)]; rfl
        · have e : contN s i 2 2048 (bat s i % 16) = none := by
            unfold contN
            rw [if_neg (fun g => k1 ⟨g.1, g.2.1 (by omega)⟩)]
          rw [e, if_neg (show ¬ ((1 < s.size - i ∧ bat s (i + 1) / 64 = 2) ∧ (2 < s.size - i ∧ bat s (i + 2) / 64 = 2)) from fun g => k1 ⟨⟨by omega, g.1.2⟩, by omega, g.2.2⟩), if_pos ⟨rfl, rfl⟩]
      · rw [if_neg c2]
        by_cases c3 : 240 ≤ bat s i ∧ bat s i < 245
        · rw [if_pos c3, dec4 c3]
          show _ = match contN s i 3 65536 (bat s i % 8) with | some j => validD (s.data.toList.drop j) | none => false
          by_cases k1 : (i + 1 < s.size ∧ bat s (i + 1) / 64 = 2) ∧ (i + 2 < s.size ∧ bat s (i + 2) / 64 = 2) ∧ (i + 3 < s.size ∧ bat s (i + 3) / 64 = 2)
          · rw [if_pos (show (1 < s.size - i ∧ bat s (i + 1) / 64 = 2) ∧ (2 < s.size - i ∧ bat s (i + 2) / 64 = 2) ∧ (3 < s.size - i ∧ bat s (i + 3) / 64 = 2) from ⟨⟨by omega, k1.1.2⟩, ⟨by omega, k1.2.1.2⟩, by omega, k1.2.2.2⟩)]
            by_cases k2 : ((bat s i % 8 * 64 + bat s (i + 1) % 64) * 64 + bat s (i + 2) % 64) * 64 + bat s (i + 3) % 64 < 65536 ∨ 1114111 < ((bat s i % 8 * 64 + bat s (i + 1) % 64) * 64 + bat s (i + 2) % 64) * 64 + bat s (i + 3) % 64
            · have e : contN s i 3 65536 (bat s i % 8) = none := by
                unfold contN
                rw [if_pos ⟨k1.1, fun _ => k1.2.1, fun _ => k1.2.2⟩]
                simp only [show ¬ (3 : Nat) = 1 from by omega, show ¬ (3 : Nat) = 2 from by omega, if_false]
                rw [if_pos (by omega)]
              rw [e, if_pos k2, if_pos ⟨rfl, rfl⟩]
            · have e : contN s i 3 65536 (bat s i % 8) = some (i + 3 + 1) := by
                unfold contN
                rw [if_pos ⟨k1.1, fun _ => k1.2.1, fun _ => k1.2.2⟩]
                simp only [show ¬ (3 : Nat) = 1 from by omega, show ¬ (3 : Nat) = 2 from by omega, if_false]
                rw [if_neg (by omega)]
              rw [e, if_neg k2, if_neg (by simp)]; rfl
          · have e : contN s i 3 65536 (bat s i % 8) = none := by
              unfold contN
              rw [if_neg (fun g => k1 ⟨g.1, g.2.1 (by omega), g.2.2 (by omega)⟩)]
            rw [e, if_neg (show ¬ ((1 < s.size - i ∧ bat s (i + 1) / 64 = 2) ∧ (2 < s.size - i ∧ bat s (i + 2) / 64 = 2) ∧ (3 < s.size - i ∧ bat s (i + 3) / 64 = 2)) from fun g => k1 ⟨⟨by omega, g.1.2⟩, ⟨by omega, g.2.1.2⟩, by omega, g.2.2.2⟩), if_pos ⟨rfl, rfl⟩]
        · rw [if_neg c3, decodeN_bad _ _ _ _ _ (by omega)]
          simp
theorem contN_some {s : ByteArray} {i n least r0 j : Nat} (h : contN s i n least r0 = some j) : j = i + n + 1 ∧ (i + 1 < s.size ∧ bat s (i + 1) / 64 = 2) ∧ (2 ≤ n → i + 2 < s.size ∧ bat s (i + 2) / 64 = 2) ∧ (3 ≤ n → i + 3 < s.size ∧ bat s (i + 3) / 64 = 2) := by
  unfold contN at h
  split at h
  · rename_i hc
    refine ⟨?_, hc⟩
    have : ∀ (p : Prop) [Decidable p], (if p then none else some (i + n + 1)) = some j → j = i + n + 1 := fun p _ hp => by
      split at hp <;> cases hp
      rfl
    exact this _ h
  · cases h
theorem stepN_up {s : ByteArray} {i j : Nat} (h : stepN s i = some j) : i < j := by
  unfold stepN at h
  split at h
  · cases h; omega
  · split at h
    · cases h
    · have := (contN_some h).1; omega
theorem stepN_le {s : ByteArray} {i j : Nat} (hi : i < s.size) (h : stepN s i = some j) : j ≤ s.size := by
  unfold stepN at h
  split at h
  · cases h; omega
  · unfold leadN at h
    split at h
    · cases h
    · rename_i n least r0 hl
      obtain ⟨rfl, h1, h2, h3⟩ := contN_some h
      split at hl
      · cases hl; omega
      · split at hl
        · cases hl; have := h2 (by omega); omega
        · split at hl
          · cases hl; have := h3 (by omega); omega
          · cases hl
theorem utf8_loop {s : ByteArray} (hs : s.size < 4611686018427387904) : ∀ d i : Nat, s.size - i = d → i ≤ s.size → loopO (tocsinref01_Utf8_l17 s) (i : Int) = some (if validD (s.data.toList.drop i) then .inl () else .inr false) := by
  intro d
  induction d using Nat.strongRecOn with
  | _ d ih =>
    intro i hd hi
    by_cases hlt : i < s.size
    · have hr := l17_round hs hlt
      have hv := stepN_valid hlt
      cases hn : stepN s i with
      | none =>
        rw [hn] at hr hv
        rw [loopO_done hr, hv]; rfl
      | some j =>
        rw [hn] at hr hv
        have h1 := stepN_up hn
        have h2 := stepN_le hlt hn
        rw [loopO_step hr, hv]
        exact ih (s.size - j) (by omega) j rfl h2
    · have : i = s.size := by omega
      subst this
      have he : tocsinref01_Utf8_l17 s (s.size : Int) = some (.inr (.inl ())) := by
        unfold tocsinref01_Utf8_l17
        rw [show decide ((s.size : Int) < (s.size : Int)) = false from decide_eq_false (by omega)]
        rfl
      rw [loopO_done he]
      rw [show s.data.toList.drop s.size = [] from List.drop_eq_nil_of_le (Nat.le_of_eq (size_list s))]
      rfl
/-- The document's Utf8 is the library's ValidString. -/
theorem refUtf8_eq {s : ByteArray} (hs : s.size < 4611686018427387904) : tocsinref01_Utf8 s = some (validD s.data.toList) := by
  unfold tocsinref01_Utf8
  have := utf8_loop hs s.size 0 (by omega) (by omega)
  rw [show ((0 : Nat) : Int) = 0 from rfl, List.drop_zero] at this
  rw [this]
  cases validD s.data.toList <;> rfl
theorem valid_eq {s : ByteArray} (hs : s.size < 4611686018427387904) : utf8_ValidString s = some (validD s.data.toList) := by
  unfold utf8_ValidString
  rw [if_pos (by omega)]
end Go.Proofs.YtjkkmbjkndageaaDoor
