/- Plain laws: the program's scans are the lists' (numbers, durations, signs). -/
import Derived.Test.YtlhpclfkoblnkaaDoorL52
import Derived.Test.YtlhpclfkoblnkaaDoorLX4
import Derived.Test.YtlhpclfkoblnkaaDoorPA2
set_option linter.unusedVariables false
set_option maxRecDepth 100000
namespace Go.GB
open Go.Lib
theorem bind_of {α β : Type} {x : Option α} {a : α} {f : α → Option β} {r : Option β} (h : x = some a) (k : f a = r) : Option.bind x f = r := by rw [h]; exact k
theorem fin_all {P : Nat → Prop} (h : ∀ c : Fin 256, P c.val) {n : Nat} (hn : n < 256) : P n := h ⟨n, hn⟩
theorem wrapN {n : Nat} {z : Int} (h : z = (n : Int)) (hn : n < 9223372036854775808) : IntKind.wrap .i64 z = (n : Int) := by rw [wrap64 (by omega) (by omega), h]
abbrev tl (s : ByteArray) : List UInt8 := s.data.toList
theorem tl_len (s : ByteArray) : (tl s).length = s.size := size_list s
theorem gB_lt (l : List UInt8) (i : Nat) : gB l i < 256 := UInt8.toNat_lt _
theorem gB_out {l : List UInt8} {i : Nat} (h : l.length ≤ i) : gB l i = 0 := by unfold gB; rw [List.getD_eq_getElem?_getD, List.getElem?_eq_none h]; rfl
theorem gB_in {l : List UInt8} {i : Nat} (h : 0 < gB l i) : i < l.length := by
  rcases Nat.lt_or_ge i l.length with h1 | h1
  · exact h1
  · rw [gB_out h1] at h; omega
theorem bx_tl {s : ByteArray} {i : Nat} (h : i < s.size) : bx s (i : Int) = some ((gB (tl s) i : Nat) : Int) := bx_at h
theorem tl_extract (s : ByteArray) (a b : Nat) : tl (s.extract a b) = ((tl s).drop a).take (b - a) := by
  show (s.extract a b).data.toList = _
  rw [ByteArray.data_extract, Array.toList_extract, List.extract_eq_take_drop]
theorem sx_tl {s : ByteArray} {a b : Nat} (h : a ≤ b) (hb : b ≤ s.size) : sx s (a : Int) (b : Int) = some (s.extract a b) := by
  unfold sx
  rw [if_pos ⟨by omega, by omega, by omega⟩]; rfl
theorem tl_inj {a b : ByteArray} : (a.toList == b.toList) = (tl a == tl b) := by rw [ByteArray.toList_eq, ByteArray.toList_eq]
theorem at_if {s : ByteArray} {i : Nat} {f : Int → Option Bool} (q : Nat → Bool) (h0 : q 0 = false) (hf : i < s.size → f ((gB (tl s) i : Nat) : Int) = some (q (gB (tl s) i))) :
    (bif decide ((i : Int) < (s.size : Int)) then Option.bind (bx s (i : Int)) f else some false) = some (q (gB (tl s) i)) := by
  by_cases h : i < s.size
  · rw [decide_eq_true (by omega), cond_true, bx_tl h, Option.bind_some, hf h]
  · rw [decide_eq_false (by omega), cond_false, gB_out (by rw [tl_len]; omega), h0]
/-- a loop that counts a run -/
theorem loop_runL {body : Int → Option (Int ⊕ Int)} {l : List UInt8} {p : Nat → Bool} (off : Nat)
    (h : ∀ k : Nat, off + k ≤ l.length → body (k : Int) = some (if off + k < l.length ∧ p (gB l (off + k)) = true then .inl ((k + 1 : Nat) : Int) else .inr (k : Int))) :
    ∀ d k : Nat, off + k + d = l.length → loopO body (k : Int) = some ((k + runL p (l.drop (off + k)) : Nat) : Int)
  | 0, k, hd => by
    have := h k (by omega)
    rw [if_neg (by omega)] at this
    rw [loopO_done this, runL_out (by omega), Nat.add_zero]
  | d + 1, k, hd => by
    have h1 := h k (by omega)
    rw [runL_step (by omega)]
    by_cases hp : p (gB l (off + k)) = true
    · rw [if_pos ⟨by omega, hp⟩] at h1
      rw [if_pos hp, loopO_step h1, loop_runL off h d (k + 1) (by omega)]
      congr 2
      rw [show off + (k + 1) = off + k + 1 from by omega]; omega
    · rw [if_neg (fun h => hp h.2)] at h1
      rw [if_neg hp, loopO_done h1, Nat.add_zero]
end Go.GB
namespace Go.Proofs.YtlhpclfkoblnkaaDoor
open Go.GB Go.Lib
theorem let_eq {c : Nat} (h : c < 256) : lex_letter (c : Int) = letN c := fin_all (P := fun n => lex_letter (n : Int) = letN n) (by unfold lex_letter; decide +kernel) h
theorem dig_eq {c : Nat} (h : c < 256) : lex_digit (c : Int) = digN c := fin_all (P := fun n => lex_digit (n : Int) = digN n) (by unfold lex_digit; decide +kernel) h
theorem hex_eq {c : Nat} (h : c < 256) : lex_hex (c : Int) = hexN c := fin_all (P := fun n => lex_hex (n : Int) = hexN n) (by unfold lex_hex lex_digit; decide +kernel) h
theorem low_eq {c : Nat} (h : c < 256) : lex_span_1 (c : Int) = lowN c := fin_all (P := fun n => lex_span_1 (n : Int) = lowN n) (by unfold lex_span_1; decide +kernel) h
theorem ident_eq {c : Nat} (h : c < 256) : lex_one_1 (c : Int) = (letN c || digN c) := by unfold lex_one_1; rw [let_eq h, dig_eq h]
theorem lex_run_eq {s : ByteArray} {a : Nat} {f : Int → Option Bool} (p : Nat → Bool) (hs : s.size < 4294967296) (ha : a ≤ s.size) (hp : ∀ c : Nat, c < 256 → f (c : Int) = some (p c)) (h0 : p 0 = false) :
    lex_run s (a : Int) f = some ((runL p ((tl s).drop a) : Nat) : Int) := by
  unfold lex_run
  have hl := tl_len s
  have := loop_runL (body := lex_run_l16 s (a : Int) f) (l := tl s) (p := p) a (fun k hk => by
    unfold lex_run_l16
    rw [wrapN (n := a + k) (by omega) (by omega)]
    refine bind_of (a := p (gB (tl s) (a + k))) ?_ ?_
    · exact at_if p h0 (fun hi => by rw [hp _ (gB_lt _ _)]; rfl)
    · by_cases hc : p (gB (tl s) (a + k)) = true
      · have hi : a + k < (tl s).length := by
          rcases Nat.lt_or_ge (a + k) (tl s).length with h | h
          · exact h
          · rw [gB_out h, h0] at hc; cases hc
        rw [hc, cond_true, if_pos ⟨hi, rfl⟩, wrapN (n := k + 1) (by omega) (by omega)]
      · rw [Bool.not_eq_true] at hc
        rw [hc, cond_false, if_neg (by simp)]) (s.size - a) 0 (by omega)
  rw [show ((0 : Nat) : Int) = 0 from rfl] at this
  rw [this]
  simp
theorem pref_eq {s p : ByteArray} : strings_HasPrefix s p = some ((tl p).isPrefixOf (tl s)) := by
  unfold strings_HasPrefix stringslite_HasPrefix
  refine bind_of (a := (tl p).isPrefixOf (tl s)) ?_ rfl
  refine bind_of (a := (tl p).isPrefixOf (tl s)) ?_ rfl
  by_cases h : p.size ≤ s.size
  · rw [decide_eq_true (by omega), cond_true, show (0 : Int) = ((0 : Nat) : Int) from rfl, sx_tl (Nat.zero_le _) h, Option.bind_some, tl_inj, tl_extract, List.drop_zero, Nat.sub_zero]
    congr 1
    rw [Bool.eq_iff_iff, List.isPrefixOf_iff_prefix, beq_iff_eq, List.prefix_iff_eq_take, tl_len]
    exact ⟨fun h => h.symm, fun h => h.symm⟩
  · rw [decide_eq_false (by omega), cond_false]
    congr 1
    symm
    rw [Bool.eq_false_iff]
    intro hp
    have := (List.isPrefixOf_iff_prefix.1 hp).length_le
    rw [tl_len, tl_len] at this; omega
theorem num_dig {s : ByteArray} {a : Nat} (hs : s.size < 4294967296) (ha : a ≤ s.size) : lex_run s (a : Int) (fun x0 => some (lex_digit x0)) = some ((runL digN ((tl s).drop a) : Nat) : Int) :=
  lex_run_eq digN hs ha (fun c hc => by rw [dig_eq hc]) rfl
theorem lex_number_eq {s : ByteArray} (hs : s.size < 4294967296) : lex_number s = some ((numL (tl s) : Nat) : Int) := by
  have hl := tl_len s
  have q1 : lex_run s 2 (fun x0 => some (lex_hex x0)) = lex_run s ((2 : Nat) : Int) (fun x0 => some (lex_hex x0)) := rfl
  have hp1 := pre_two' 48 120 (tl s) (by decide) (by decide)
  have hp2 := pre_two' 48 88 (tl s) (by decide) (by decide)
  unfold lex_number
  refine bind_of (a := decide (gB (tl s) 0 = 48 ∧ (gB (tl s) 1 = 120 ∨ gB (tl s) 1 = 88))) ?_ ?_
  · rw [pref_eq, pref_eq, show tl (⟨#[48, 120]⟩ : ByteArray) = [48, 120] from rfl, show tl (⟨#[48, 88]⟩ : ByteArray) = [48, 88] from rfl, hp1, hp2]
    show Option.bind (some (decide (gB (tl s) 0 = 48) && decide (gB (tl s) 1 = 120))) _ = _
    rw [Option.bind_some]
    by_cases h0 : gB (tl s) 0 = 48 <;> by_cases h1 : gB (tl s) 1 = 120 <;> by_cases h2 : gB (tl s) 1 = 88 <;> simp [h0, h1, h2]
  refine bind_of (a := if gB (tl s) 0 = 48 ∧ (gB (tl s) 1 = 120 ∨ gB (tl s) 1 = 88) ∧ 0 < runL hexN ((tl s).drop 2) then Sum.inr ((2 + runL hexN ((tl s).drop 2) : Nat) : Int) else Sum.inl ()) ?_ ?_
  · by_cases hc : gB (tl s) 0 = 48 ∧ (gB (tl s) 1 = 120 ∨ gB (tl s) 1 = 88)
    · have h2 : 2 ≤ s.size := by have := gB_in (l := tl s) (i := 1) (by omega); omega
      rw [decide_eq_true hc, cond_true, q1, lex_run_eq hexN hs h2 (fun c hc => by rw [hex_eq hc]) rfl, Option.bind_some]
      by_cases hr : 0 < runL hexN ((tl s).drop 2)
      · rw [decide_eq_true (by omega), cond_true, if_pos ⟨hc.1, hc.2, hr⟩, wrapN (n := 2 + runL hexN ((tl s).drop 2)) (by omega) (by have := runL_le hexN ((tl s).drop 2); rw [List.length_drop] at this; omega)]
      · rw [decide_eq_false (by omega), cond_false, if_neg (fun h => hr h.2.2)]
    · rw [decide_eq_false hc, cond_false, if_neg (fun h => hc ⟨h.1, h.2.1⟩)]
  unfold numL
  by_cases hH : gB (tl s) 0 = 48 ∧ (gB (tl s) 1 = 120 ∨ gB (tl s) 1 = 88) ∧ 0 < runL hexN ((tl s).drop 2)
  · rw [if_pos hH, if_pos hH]
  rw [if_neg hH, if_neg hH]
  show Option.bind _ _ = _
  have hA := runL_le digN (tl s)
  refine bind_of (a := ((runL digN (tl s) : Nat) : Int)) (by have := num_dig (a := 0) hs (by omega); rw [List.drop_zero] at this; exact this) ?_
  generalize hAe : runL digN (tl s) = A at *
  refine bind_of (a := decide (gB (tl s) A = 46)) ?_ ?_
  · exact at_if (fun c => decide (c = 46)) rfl (fun hi => by show some (((gB (tl s) A : Nat) : Int) == 46) = some (decide (gB (tl s) A = 46)); congr 1; rw [Bool.eq_iff_iff, beq_iff_eq, decide_eq_true_eq]; omega)
  have hNA := numA_le (l := tl s) (a := A) (by omega)
  refine bind_of (a := if gB (tl s) A = 46 ∧ numA (tl s) A = 0 then Sum.inr (0 : Int) else Sum.inl ((numA (tl s) A : Nat) : Int)) ?_ ?_
  · by_cases hd : gB (tl s) A = 46
    · have hi := gB_in (l := tl s) (i := A) (by omega)
      have hB := runL_le digN ((tl s).drop (A + 1))
      rw [List.length_drop] at hB
      unfold numA
      rw [decide_eq_true hd, cond_true, if_pos hd, wrapN (n := A + 1) (by omega) (by omega), num_dig hs (by omega), Option.bind_some, wrapN (n := A + runL digN ((tl s).drop (A + 1))) (by omega) (by omega)]
      by_cases hz : A + runL digN ((tl s).drop (A + 1)) = 0
      · rw [if_pos hz, if_pos ⟨hd, rfl⟩, hz]; rfl
      · rw [if_neg hz, if_neg (fun h => by have := h.2; omega), show (((A + runL digN ((tl s).drop (A + 1)) : Nat) : Int) == 0) = false from by rw [beq_eq_false_iff_ne]; omega, cond_false,
          wrapN (z := 1 + ((runL digN ((tl s).drop (A + 1)) : Nat) : Int)) (n := 1 + runL digN ((tl s).drop (A + 1))) (by omega) (by omega), wrapN (n := A + 1 + runL digN ((tl s).drop (A + 1))) (by omega) (by omega)]
    · rw [decide_eq_false hd, cond_false, if_neg (fun h => hd h.1)]
      unfold numA; rw [if_neg hd]
  by_cases hz : gB (tl s) A = 46 ∧ numA (tl s) A = 0
  · rw [if_pos hz]
    show some (0 : Int) = _
    rw [if_pos hz.2]; rfl
  rw [if_neg hz]
  have hnl : numA (tl s) A ≤ s.size := by omega
  generalize numA (tl s) A = M at *
  show (bif ((M : Int) == 0) then _ else _) = _
  by_cases hM : M = 0
  · subst hM; rfl
  rw [show ((M : Int) == 0) = false from by rw [beq_eq_false_iff_ne]; omega, cond_false, if_neg hM]
  unfold expL
  refine bind_of (a := decide (gB (tl s) M = 101 ∨ gB (tl s) M = 69)) ?_ ?_
  · exact at_if (fun c => decide (c = 101 ∨ c = 69)) rfl (fun hi => by
      rw [bx_tl hi]
      by_cases h1 : gB (tl s) M = 101
      · rw [h1]; rfl
      · rw [show (((gB (tl s) M : Nat) : Int) == 101) = false from by rw [beq_eq_false_iff_ne]; omega]
        simp only [cond_false, Option.bind_some, h1, false_or]
        congr 1; rw [Bool.eq_iff_iff, beq_iff_eq, decide_eq_true_eq]; omega)
  by_cases hE : gB (tl s) M = 101 ∨ gB (tl s) M = 69
  · rw [decide_eq_true hE, cond_true, if_pos hE]
    have hi := gB_in (l := tl s) (i := M) (by omega)
    refine bind_of (a := (((if 0 < runL digN ((tl s).drop (expK (tl s) M)) then expK (tl s) M + runL digN ((tl s).drop (expK (tl s) M)) else M) : Nat) : Int)) ?_ rfl
    rw [wrapN (n := M + 1) (by omega) (by omega)]
    refine bind_of (a := decide (gB (tl s) (M + 1) = 43 ∨ gB (tl s) (M + 1) = 45)) ?_ ?_
    · exact at_if (fun c => decide (c = 43 ∨ c = 45)) rfl (fun hi => by
        rw [bx_tl hi]
        by_cases h1 : gB (tl s) (M + 1) = 43
        · rw [h1]; rfl
        · rw [show (((gB (tl s) (M + 1) : Nat) : Int) == 43) = false from by rw [beq_eq_false_iff_ne]; omega]
          simp only [cond_false, Option.bind_some, h1, false_or]
          congr 1; rw [Bool.eq_iff_iff, beq_iff_eq, decide_eq_true_eq]; omega)
    refine bind_of (a := ((expK (tl s) M : Nat) : Int)) ?_ ?_
    · unfold expK
      by_cases hS : gB (tl s) (M + 1) = 43 ∨ gB (tl s) (M + 1) = 45
      · rw [decide_eq_true hS, cond_true, if_pos hS, wrapN (n := M + 2) (by omega) (by omega)]
      · rw [decide_eq_false hS, cond_false, if_neg hS]
    have hk := (expK_le (l := tl s) (n := M) hi).2
    rw [hl] at hk
    generalize expK (tl s) M = Kk at *
    have hD := runL_le digN ((tl s).drop Kk)
    rw [List.length_drop] at hD
    refine bind_of (num_dig hs hk) ?_
    refine bind_of (a := (((if 0 < runL digN ((tl s).drop Kk) then Kk + runL digN ((tl s).drop Kk) else M) : Nat) : Int)) ?_ rfl
    by_cases hr : 0 < runL digN ((tl s).drop Kk)
    · rw [decide_eq_true (by omega), cond_true, if_pos hr, wrapN (n := Kk + runL digN ((tl s).drop Kk)) (by omega) (by omega)]
    · rw [decide_eq_false (by omega), cond_false, if_neg hr]
  · rw [decide_eq_false hE, cond_false, if_neg hE]; rfl
end Go.Proofs.YtlhpclfkoblnkaaDoor
