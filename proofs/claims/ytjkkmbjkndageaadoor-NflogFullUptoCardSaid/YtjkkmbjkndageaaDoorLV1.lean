import Derived.Test.YtjkkmbjkndageaaDoorLX1
import Derived.Lib.ValidLaws
set_option linter.unusedVariables false
namespace Go.GB
open Go.Lib
theorem take_getD {a b : List UInt8} {w i : Nat} (h : b.take w = a.take w) (hi : i < w) : b.getD i 0 = a.getD i 0 := by
  have h1 : (b.take w)[i]? = (a.take w)[i]? := by rw [h]
  rw [List.getElem?_take, List.getElem?_take, if_pos hi, if_pos hi] at h1
  simp [List.getD, h1]
theorem take_len {a b : List UInt8} {w : Nat} (h : b.take w = a.take w) (hl : w ≤ a.length) : w ≤ b.length := by
  have := congrArg List.length h
  simp at this; omega
set_option maxRecDepth 100000 in
/-- a rune that is right is read of its own bytes alone -/
theorem decode_ext {a b : List UInt8} (ha : ¬ ((decodeL a).1 = 65533 ∧ (decodeL a).2 = 1)) (hl : (decodeL a).2 ≤ a.length) (h : b.take (decodeL a).2 = a.take (decodeL a).2) : decodeL b = decodeL a := by
  have hb := take_len h hl
  rw [decodeL_N a] at *
  rw [decodeL_N b]
  rcases decodeN_shape a.length (a.getD 0 0).toNat (a.getD 1 0).toNat (a.getD 2 0).toNat (a.getD 3 0).toNat with ⟨c, e⟩ | ⟨c1, c2, c3, cv, e⟩ | ⟨c1, c2, c3, c4, cv, cs, e⟩ | ⟨c1, c2, c3, c4, c5, cv, cw, e⟩ | e
  · rw [e] at h hb ⊢
    rw [take_getD h (i := 0) (by omega)]
    unfold decodeN; rw [if_pos c]
  · rw [e] at h hb ⊢
    rw [take_getD h (i := 0) (by omega), take_getD h (i := 1) (by omega)]
    dsimp only at hb
    unfold decodeN
    rw [if_neg (by omega), if_pos ⟨c1, by omega, c3⟩, if_pos (by omega)]
  · rw [e] at h hb ⊢
    rw [take_getD h (i := 0) (by omega), take_getD h (i := 1) (by omega), take_getD h (i := 2) (by omega)]
    dsimp only at hb
    unfold decodeN
    rw [if_neg (by omega), if_neg (by omega), if_pos ⟨c1, ⟨by omega, c3⟩, by omega, c4⟩, if_pos ⟨by omega, by omega⟩]
  · rw [e] at h hb ⊢
    rw [take_getD h (i := 0) (by omega), take_getD h (i := 1) (by omega), take_getD h (i := 2) (by omega), take_getD h (i := 3) (by omega)]
    dsimp only at hb
    unfold decodeN
    rw [if_neg (by omega), if_neg (by omega), if_neg (by omega), if_pos ⟨c1, ⟨by omega, c3⟩, ⟨by omega, c4⟩, by omega, c5⟩, if_pos ⟨by omega, by omega⟩]
  · rw [e] at ha; exact absurd ⟨rfl, rfl⟩ ha
/-- the bytes of a right rune behind its first one are from 128 on; so is the first one, if there are more -/
theorem decode_high {l : List UInt8} {i : Nat} (hi : i < (decodeL l).2) (h1 : (decodeL l).2 ≠ 1) : 128 ≤ gB l i := by
  unfold gB
  rw [decodeL_N l] at *
  rcases decodeN_shape l.length (l.getD 0 0).toNat (l.getD 1 0).toNat (l.getD 2 0).toNat (l.getD 3 0).toNat with ⟨c, e⟩ | ⟨c1, c2, c3, cv, e⟩ | ⟨c1, c2, c3, c4, cv, cs, e⟩ | ⟨c1, c2, c3, c4, c5, cv, cw, e⟩ | e
  all_goals (rw [e] at hi h1; dsimp only at hi h1)
  · omega
  · rcases (by omega : i = 0 ∨ i = 1) with rfl | rfl <;> omega
  · rcases (by omega : i = 0 ∨ i = 1 ∨ i = 2) with rfl | rfl | rfl <;> omega
  · rcases (by omega : i = 0 ∨ i = 1 ∨ i = 2 ∨ i = 3) with rfl | rfl | rfl | rfl <;> omega
  · omega
theorem decode_ascii {l : List UInt8} (h : gB l 0 < 128) : decodeL l = (gB l 0, 1) := by
  rw [decodeL_N, decodeN, if_pos (show (l.getD 0 0).toNat < 128 from h)]; rfl
theorem decode_big {l : List UInt8} (h : 128 ≤ gB l 0) : 128 ≤ (decodeL l).1 := by
  unfold gB at h
  rw [decodeL_N]
  rcases decodeN_shape l.length (l.getD 0 0).toNat (l.getD 1 0).toNat (l.getD 2 0).toNat (l.getD 3 0).toNat with ⟨c, e⟩ | ⟨c1, c2, c3, cv, e⟩ | ⟨c1, c2, c3, c4, cv, cs, e⟩ | ⟨c1, c2, c3, c4, c5, cv, cw, e⟩ | e
  all_goals (rw [e]; dsimp only; omega)
theorem decode_one {l : List UInt8} (h : 128 ≤ gB l 0) (h1 : (decodeL l).2 = 1) : (decodeL l).1 = 65533 := by
  unfold gB at h
  rw [decodeL_N] at *
  rcases decodeN_shape l.length (l.getD 0 0).toNat (l.getD 1 0).toNat (l.getD 2 0).toNat (l.getD 3 0).toNat with ⟨c, e⟩ | ⟨c1, c2, c3, cv, e⟩ | ⟨c1, c2, c3, c4, cv, cs, e⟩ | ⟨c1, c2, c3, c4, c5, cv, cw, e⟩ | e
  all_goals (rw [e] at h1 ⊢)
  all_goals (dsimp only at h1 ⊢; try omega)
theorem validD_low {l : List UInt8} (hl : l ≠ []) (h : gB l 0 < 128) : validD l = validD (l.drop 1) := by
  obtain ⟨c, t, rfl⟩ := List.exists_cons_of_ne_nil hl
  exact validD_cons c t h
theorem validD_rune {l x : List UInt8} (hv : ¬ ((decodeL l).1 = 65533 ∧ (decodeL l).2 = 1)) (hl : l ≠ []) : validD (l.take (decodeL l).2 ++ x) = validD x := by
  have hle := decodeL_le l hl
  have hw := decodeL_width l
  have e : (l.take (decodeL l).2 ++ x).take (decodeL l).2 = l.take (decodeL l).2 := by rw [List.take_left' (by rw [List.length_take]; omega)]
  have hd := decode_ext hv hle e
  rw [validD_step _ (by intro h; have := congrArg List.length h; rw [List.length_append, List.length_take, List.length_nil] at this; have := List.length_pos_iff.2 hl; omega), hd, if_neg hv, List.drop_left' (by rw [List.length_take]; omega)]
end Go.GB
