/- Plain laws: LexBlanks. -/
import Derived.Test.YtlhpclfkoblnkaaDoorPA3s
import Derived.Test.YtlhpclfkoblnkaaDoorL55s
import Derived.Lib.ValidLaws
import Derived.Test.YtlhpclfkoblnkaaDoorM1s
/- Plain laws: the program's texts in quotes, tokens. -/
set_option linter.unusedVariables false
set_option maxRecDepth 100000
namespace Go.GB
open Go.Lib
def bi (a : List UInt8) : List Int := a.map fun c => ((c.toNat : Nat) : Int)
theorem bi_app (a b : List UInt8) : bi (a ++ b) = bi a ++ bi b := by unfold bi; rw [List.map_append]
theorem bi_len (a : List UInt8) : (bi a).length = a.length := by unfold bi; rw [List.length_map]
theorem bi_bytes (s : ByteArray) : bytesOf s = bi (tl s) := rfl
theorem strO_bi (a : List UInt8) : strO (bi a) = some ⟨a.toArray⟩ := by
  unfold strO
  rw [if_pos (by
    intro x hx
    unfold bi at hx
    obtain ⟨c, _, rfl⟩ := List.mem_map.1 hx
    have := c.toNat_lt
    omega)]
  congr 2
  unfold bi
  rw [List.map_map]
  congr 1
  conv => rhs; rw [← List.map_id a]
  refine List.map_congr_left fun c _ => ?_
  show UInt8.ofNat (((c.toNat : Nat) : Int)).toNat = c
  rw [Int.toNat_natCast, UInt8.ofNat_toNat]
theorem or192 : ∀ x : Fin 32, bitOr .u8 192 ((x.val : Nat) : Int) = ((192 + x.val : Nat) : Int) := by decide +kernel
theorem or224 : ∀ x : Fin 16, bitOr .u8 224 ((x.val : Nat) : Int) = ((224 + x.val : Nat) : Int) := by decide +kernel
theorem or240 : ∀ x : Fin 8, bitOr .u8 240 ((x.val : Nat) : Int) = ((240 + x.val : Nat) : Int) := by decide +kernel
theorem or128x : ∀ x : Fin 64, bitOr .u8 128 ((x.val : Nat) : Int) = ((128 + x.val : Nat) : Int) := by decide +kernel
theorem wrapU32 {x : Int} (h : 0 ≤ x) (h' : x < 4294967296) : IntKind.wrap .u32 x = x := by
  unfold IntKind.wrap
  simp [IntKind.bits, IntKind.signed]
  omega
theorem wrapI32 {x : Int} (h : -2147483648 ≤ x) (h' : x < 2147483648) : IntKind.wrap .i32 x = x := by
  unfold IntKind.wrap
  simp [IntKind.bits, IntKind.signed]
  omega
theorem cont_byte (c : Nat) : bitOr .u8 128 (bitAnd .u8 (IntKind.wrap .u8 ((c : Nat) : Int)) 63) = ((128 + c % 64 : Nat) : Int) := by
  rw [wrapU8_eq, show ((c : Nat) : Int) % 256 = ((c % 256 : Nat) : Int) from by omega]
  have h1 := and63 ⟨c % 256, by omega⟩
  have h2 := or128x ⟨c % 256 % 64, by omega⟩
  simp only at h1 h2
  rw [h1, h2]
  congr 1; omega
theorem runL_high {p : Nat → Bool} : ∀ (w : Nat) (l : List UInt8), w ≤ l.length → (∀ i, i < w → p (gB l i) = true) → runL p l = w + runL p (l.drop w)
  | 0, l, _, _ => by simp
  | w + 1, l, hl, h => by
    rw [show runL p l = runL p (l.drop 0) from rfl, runL_step (by omega), if_pos (h 0 (by omega)), Nat.zero_add]
    have := runL_high w (l.drop 1) (by rw [List.length_drop]; omega) (fun i hi => by rw [gB_drop]; exact h _ (by omega))
    rw [this, List.drop_drop, Nat.add_comm 1 w]; omega
theorem decodeGo_tl (s : ByteArray) (h : 0 < s.size) : decodeGo s = decodeL (tl s) := by
  unfold decodeGo decodeL
  rw [if_neg (by omega)]
end Go.GB
namespace Go.Proofs.YtlhpclfkoblnkaaDoor
open Go.GB Go.Lib
theorem appendRune_eq {l a : List UInt8} (hl : l ≠ []) (hv : ¬ ((decodeL l).1 = 65533 ∧ (decodeL l).2 = 1)) (hb : a.length + 4 ≤ 2147483648) :
    utf8_AppendRune_f71 (bi a) (((decodeL l).1 : Nat) : Int) = some (bi (a ++ l.take (decodeL l).2)) := by
  have hle := decodeL_le l hl
  have k0 := (l.getD 0 0).toNat_lt
  have k1 := (l.getD 1 0).toNat_lt
  have k2 := (l.getD 2 0).toNat_lt
  have k3 := (l.getD 3 0).toNat_lt
  have shr' : ∀ (c n : Nat), n ≤ 32 → shr .i32 (c : Int) (n : Int) = ((c / 2 ^ n : Nat) : Int) := fun c n h => shr_nat .i32 c n h
  unfold utf8_AppendRune_f71 utf8_appendRuneNonASCII_f79
  rw [decodeL_N] at hv hle ⊢
  rcases decodeN_shape l.length (l.getD 0 0).toNat (l.getD 1 0).toNat (l.getD 2 0).toNat (l.getD 3 0).toNat with ⟨c, e⟩ | ⟨c1, c2, c3, cv, e⟩ | ⟨c1, c2, c3, c4, cv, cs, e⟩ | ⟨c1, c2, c3, c4, c5, cv, cw, e⟩ | e
  · rw [e] at hle ⊢
    simp only
    rw [wrapU32 (by omega) (by omega), decide_eq_true (by omega), cond_true, app_eq (by rw [bi_len]; simp; omega), Option.bind_some, wrapU8 (by omega) (by omega), bi_app]
    rw [takeA l (List.length_pos_iff.2 hl)]; rfl
  · rw [e] at hle ⊢
    simp only
    generalize hC : (l.getD 0 0).toNat % 32 * 64 + (l.getD 1 0).toNat % 64 = C at *
    rw [wrapU32 (by omega) (by omega), decide_eq_false (by omega), cond_false, decide_eq_true (by omega), cond_true, show shr .i32 (C : Int) 6 = ((C / 64 : Nat) : Int) from shr' C 6 (by omega), wrapU8 (by omega) (by omega), cont_byte]
    have h1 := or192 ⟨C / 64, by omega⟩
    simp only at h1
    rw [h1, app_eq (by rw [bi_len]; simp; omega), Option.bind_some, Option.bind_some, bi_app, takeB l c2]
    unfold bi
    simp only [List.map_cons, List.map_nil]
    rw [show 192 + C / 64 = (l.getD 0 0).toNat from by omega, show 128 + C % 64 = (l.getD 1 0).toNat from by omega]
  · rw [e] at hle ⊢
    simp only
    generalize hC : (l.getD 0 0).toNat % 16 * 4096 + (l.getD 1 0).toNat % 64 * 64 + (l.getD 2 0).toNat % 64 = C at *
    rw [wrapU32 (by omega) (by omega), decide_eq_false (show ¬ ((C : Int) ≤ 127) by omega), cond_false, decide_eq_false (show ¬ ((C : Int) ≤ 2047) by omega), cond_false]
    have hj : (bif decide ((C : Int) < 55296) then some (decide ((C : Int) < 55296)) else some (decide ((57343 : Int) < (C : Int)) && decide ((C : Int) ≤ 65535))) = some true := by
      by_cases h5 : C < 55296
      · rw [decide_eq_true (show (C : Int) < 55296 by omega)]; rfl
      · rw [decide_eq_false (show ¬ ((C : Int) < 55296) by omega), decide_eq_true (show (57343 : Int) < (C : Int) by omega), decide_eq_true (show (C : Int) ≤ 65535 by omega)]; rfl
    rw [hj, Option.bind_some, cond_true, show shr .i32 (C : Int) 12 = ((C / 4096 : Nat) : Int) from shr' C 12 (by omega), show shr .i32 (C : Int) 6 = ((C / 64 : Nat) : Int) from shr' C 6 (by omega), wrapU8 (x := ((C / 4096 : Nat) : Int)) (by omega) (by omega), cont_byte, cont_byte]
    have h1 := or224 ⟨C / 4096, by omega⟩
    simp only at h1
    rw [h1, app_eq (by rw [bi_len]; simp; omega), Option.bind_some, Option.bind_some, bi_app, takeC l c2]
    unfold bi
    simp only [List.map_cons, List.map_nil]
    rw [show 224 + C / 4096 = (l.getD 0 0).toNat from by omega, show 128 + C / 64 % 64 = (l.getD 1 0).toNat from by omega, show 128 + C % 64 = (l.getD 2 0).toNat from by omega]
  · rw [e] at hle ⊢
    simp only
    generalize hC : (l.getD 0 0).toNat % 8 * 262144 + (l.getD 1 0).toNat % 64 * 4096 + (l.getD 2 0).toNat % 64 * 64 + (l.getD 3 0).toNat % 64 = C at *
    rw [wrapU32 (by omega) (by omega), decide_eq_false (show ¬ ((C : Int) ≤ 127) by omega), cond_false, decide_eq_false (show ¬ ((C : Int) ≤ 2047) by omega), cond_false]
    have hj : (bif decide ((C : Int) < 55296) then some (decide ((C : Int) < 55296)) else some (decide ((57343 : Int) < (C : Int)) && decide ((C : Int) ≤ 65535))) = some false := by
      rw [decide_eq_false (show ¬ ((C : Int) < 55296) by omega), decide_eq_true (show (57343 : Int) < (C : Int) by omega), decide_eq_false (show ¬ ((C : Int) ≤ 65535) by omega)]; rfl
    rw [hj, Option.bind_some, cond_false, decide_eq_true (show (C : Int) > 65535 by omega), decide_eq_true (show (C : Int) ≤ 1114111 by omega)]
    rw [show (true && true) = true from rfl, cond_true, show shr .i32 (C : Int) 18 = ((C / 262144 : Nat) : Int) from shr' C 18 (by omega), show shr .i32 (C : Int) 12 = ((C / 4096 : Nat) : Int) from shr' C 12 (by omega), show shr .i32 (C : Int) 6 = ((C / 64 : Nat) : Int) from shr' C 6 (by omega), wrapU8 (x := ((C / 262144 : Nat) : Int)) (by omega) (by omega), cont_byte, cont_byte, cont_byte]
    have h1 := or240 ⟨C / 262144, by omega⟩
    simp only at h1
    rw [h1, app_eq (by rw [bi_len]; simp; omega), Option.bind_some, Option.bind_some, bi_app, takeD l c2]
    unfold bi
    simp only [List.map_cons, List.map_nil]
    rw [show 240 + C / 262144 = (l.getD 0 0).toNat from by omega, show 128 + C / 4096 % 64 = (l.getD 1 0).toNat from by omega, show 128 + C / 64 % 64 = (l.getD 2 0).toNat from by omega, show 128 + C % 64 = (l.getD 3 0).toNat from by omega]
  · rw [e] at hv; exact absurd ⟨rfl, rfl⟩ hv
def qfin : (Unit) ⊕ (ByteArray × Int) → ByteArray × Int | .inl _ => (⟨#[]⟩, 0) | .inr v => v
theorem quoted_loop {s : ByteArray} {q : Nat} (hq : q < 128) (hs : s.size < 1073741824) : ∀ (m at_ : Nat) (a : List UInt8), s.size - at_ = m → at_ ≤ s.size → a.length ≤ at_ →
    (loopO (lex_quoted_l32 s (q : Int)) ((), bi a, (at_ : Int))).map qfin = some (match textP q ((tl s).drop at_) with | some (o, n) => (⟨(a ++ o).toArray⟩, ((at_ + n : Nat) : Int)) | none => (⟨#[]⟩, 0)) := by
  intro m
  induction m using Nat.strongRecOn with
  | _ m ih =>
    intro at_ a hm hle hal
    have hl := tl_len s
    by_cases hlt : at_ < s.size
    · have hne : (tl s).drop at_ ≠ [] := by intro h; have := congrArg List.length h; rw [List.length_drop, List.length_nil] at this; omega
      have hw := decodeL_width ((tl s).drop at_)
      have hwl := decodeL_le _ hne
      rw [List.length_drop] at hwl
      have hsx : sx s (at_ : Int) (s.size : Int) = some (s.extract at_ s.size) := sx_tl (by omega) (Nat.le_refl _)
      have htl : tl (s.extract at_ s.size) = (tl s).drop at_ := by rw [tl_extract, List.take_of_length_le (by rw [List.length_drop]; omega)]
      have hdec : utf8_DecodeRuneInString (s.extract at_ s.size) = some ((((decodeL ((tl s).drop at_)).1 : Nat) : Int), (((decodeL ((tl s).drop at_)).2 : Nat) : Int)) := by
        unfold utf8_DecodeRuneInString
        rw [decodeGo_tl _ (by rw [← tl_len, htl, List.length_drop]; omega), htl]
      have hrd := decodeL_rune ((tl s).drop at_)
      rw [textP, dif_neg hne]
      have e1 : ∀ c k : Nat, (((c : Nat) : Int) == (k : Int)) = decide (c = k) := fun c k => by rw [Bool.eq_iff_iff, beq_iff_eq, decide_eq_true_eq]; omega
      -- the body
      have hbody : lex_quoted_l32 s (q : Int) ((), bi a, (at_ : Int)) =
          if (decodeL ((tl s).drop at_)).1 = q then some (.inr (.inr (⟨a.toArray⟩, ((at_ + 1 : Nat) : Int))))
          else if ((decodeL ((tl s).drop at_)).1 = 65533 ∧ (decodeL ((tl s).drop at_)).2 = 1) ∨ (decodeL ((tl s).drop at_)).1 = 10 then some (.inr (.inr (⟨#[]⟩, 0)))
          else if (decodeL ((tl s).drop at_)).1 = 92 then (match escL ((tl s).drop (at_ + 1)) with
            | none => some (.inr (.inr (⟨#[]⟩, 0)))
            | some (x, k) => some (.inl ((), bi (a ++ [x]), ((at_ + (1 + k) : Nat) : Int))))
          else some (.inl ((), bi (a ++ ((tl s).drop at_).take (decodeL ((tl s).drop at_)).2), ((at_ + (decodeL ((tl s).drop at_)).2 : Nat) : Int))) := by
        unfold lex_quoted_l32
        rw [show decide ((((), bi a, (at_ : Int)) : Unit × List Int × Int).2.2 < (s.size : Int)) = true from decide_eq_true (by show (at_ : Int) < (s.size : Int); omega), cond_true]
        refine bind_of hsx ?_
        refine bind_of hdec ?_
        generalize hD : decodeL ((tl s).drop at_) = D at *
        obtain ⟨d1, d2⟩ := D
        simp only at hrd hw hwl ⊢
        rw [wrapI32 (by omega) (by omega), e1]
        by_cases h1 : d1 = q
        · rw [decide_eq_true h1, cond_true, if_pos h1]
          refine bind_of (show strings_Builder_String _ = some _ from strO_bi a) ?_
          rw [wrapN (n := at_ + 1) (by omega) (by omega)]
        rw [decide_eq_false h1, cond_false, if_neg h1]
        have hj : (bif ((((d1 : Nat) : Int) == 65533) && (((d2 : Nat) : Int) == 1)) then some ((((d1 : Nat) : Int) == 65533) && (((d2 : Nat) : Int) == 1)) else some (((d1 : Nat) : Int) == 10)) = some (decide ((d1 = 65533 ∧ d2 = 1) ∨ d1 = 10)) := by
          rw [show (((d1 : Nat) : Int) == 65533) = decide (d1 = 65533) from e1 d1 65533, show (((d2 : Nat) : Int) == 1) = decide (d2 = 1) from e1 d2 1, show (((d1 : Nat) : Int) == 10) = decide (d1 = 10) from e1 d1 10]
          by_cases k1 : d1 = 65533 <;> by_cases k2 : d2 = 1 <;> by_cases k3 : d1 = 10 <;> simp [k1, k2, k3]
        refine bind_of hj ?_
        by_cases h2 : (d1 = 65533 ∧ d2 = 1) ∨ d1 = 10
        · rw [decide_eq_true h2, cond_true, if_pos h2]
        rw [decide_eq_false h2, cond_false, if_neg h2]
        rw [show (((d1 : Nat) : Int) == 92) = decide (d1 = 92) from e1 d1 92]
        by_cases h3 : d1 = 92
        · rw [decide_eq_true h3, cond_true, if_pos h3, wrapN (z := (at_ : Int) + 1) (n := at_ + 1) (by omega) (by omega)]
          have hsx2 : sx s ((at_ + 1 : Nat) : Int) (s.size : Int) = some (s.extract (at_ + 1) s.size) := sx_tl (by omega) (Nat.le_refl _)
          have htl2 : tl (s.extract (at_ + 1) s.size) = (tl s).drop (at_ + 1) := by rw [tl_extract, List.take_of_length_le (by rw [List.length_drop]; omega)]
          have hsz2 : (s.extract (at_ + 1) s.size).size < 4294967296 := by rw [← tl_len, htl2, List.length_drop]; omega
          have hesc := lex_escape_eq hsz2
          rw [htl2] at hesc
          rw [hsx2, Option.bind_some, hesc, Option.bind_some]
          cases hk : escL ((tl s).drop (at_ + 1)) with
          | none => rfl
          | some xk =>
            obtain ⟨x, k⟩ := xk
            have hkl := escL_low hk
            rw [List.length_drop] at hkl
            simp only
            rw [show (((k : Nat) : Int) == 0) = decide (k = 0) from e1 k 0, decide_eq_false (by omega), cond_false]
            have hwb : strings_Builder_WriteByte (⟨bi a⟩ : S50) ((x.toNat : Nat) : Int) = some ((), ⟨bi (a ++ [x])⟩) := by
              unfold strings_Builder_WriteByte strings_Builder_copyCheck
              rw [app_eq (by rw [bi_len]; simp; omega), Option.bind_some, bi_app]; rfl
            rw [hwb, Option.bind_some, Option.bind_some]
            simp only
            rw [wrapN (z := 1 + ((k : Nat) : Int)) (n := 1 + k) (by omega) (by omega), wrapN (n := at_ + (1 + k)) (by omega) (by omega)]
        · rw [decide_eq_false h3, cond_false, if_neg h3]
          have hv : ¬ (d1 = 65533 ∧ d2 = 1) := fun h => h2 (.inl h)
          have har := appendRune_eq (l := (tl s).drop at_) (a := a) hne (by rw [hD]; exact hv) (by omega)
          rw [hD] at har
          have hwr : strings_Builder_WriteRune (⟨bi a⟩ : S50) ((d1 : Nat) : Int) = some (IntKind.wrap .i64 (((bi (a ++ ((tl s).drop at_).take d2)).length : Int) - ((bi a).length : Int)), (), ⟨bi (a ++ ((tl s).drop at_).take d2)⟩) := by
            unfold strings_Builder_WriteRune strings_Builder_copyCheck
            rw [har, Option.bind_some]
          rw [hwr, Option.bind_some, Option.bind_some]
          simp only
          rw [wrapN (n := at_ + d2) (by omega) (by omega)]
      have step : ∀ (a' : List UInt8) (j : Nat), lex_quoted_l32 s (q : Int) ((), bi a, (at_ : Int)) = some (.inl ((), bi a', ((j : Nat) : Int))) → at_ < j → j ≤ s.size → a'.length ≤ j →
          (loopO (lex_quoted_l32 s (q : Int)) ((), bi a, (at_ : Int))).map qfin = some (match textP q ((tl s).drop j) with | some (o, n) => (⟨(a' ++ o).toArray⟩, ((j + n : Nat) : Int)) | none => (⟨#[]⟩, 0)) := fun a' j h1 h2 h3 h4 => by
        rw [loopO_step h1]; exact ih (s.size - j) (by omega) j a' rfl h3 h4
      by_cases h1 : (decodeL ((tl s).drop at_)).1 = q
      · rw [if_pos h1] at hbody ⊢
        rw [loopO_done hbody]
        simp [qfin]
      rw [if_neg h1] at hbody ⊢
      by_cases h2 : ((decodeL ((tl s).drop at_)).1 = 65533 ∧ (decodeL ((tl s).drop at_)).2 = 1) ∨ (decodeL ((tl s).drop at_)).1 = 10
      · rw [if_pos h2] at hbody ⊢
        rw [loopO_done hbody]; rfl
      rw [if_neg h2] at hbody ⊢
      by_cases h3 : (decodeL ((tl s).drop at_)).1 = 92
      · rw [if_pos h3] at hbody ⊢
        rw [List.drop_drop]
        cases hk : escL ((tl s).drop (at_ + 1)) with
        | none =>
          rw [hk] at hbody
          rw [loopO_done hbody]; rfl
        | some xk =>
          obtain ⟨x, k⟩ := xk
          have hkl := escL_low hk
          rw [List.length_drop] at hkl
          rw [hk] at hbody
          simp only at hbody ⊢
          rw [step _ _ hbody (by omega) (by omega) (by simp; omega), List.drop_drop]
          cases textP q ((tl s).drop (at_ + (1 + k))) with
          | none => rfl
          | some on => simp [Nat.add_assoc, Nat.add_comm, Nat.add_left_comm]
      · rw [if_neg h3] at hbody ⊢
        rw [step _ _ hbody (by omega) (by omega) (by rw [List.length_append, List.length_take]; omega), List.drop_drop]
        cases textP q ((tl s).drop (at_ + (decodeL ((tl s).drop at_)).2)) with
        | none => rfl
        | some on => simp [Nat.add_assoc, Nat.add_comm, Nat.add_left_comm]
    · have he : lex_quoted_l32 s (q : Int) ((), bi a, (at_ : Int)) = some (.inr (.inl ())) := by
        unfold lex_quoted_l32
        rw [show decide ((((), bi a, (at_ : Int)) : Unit × List Int × Int).2.2 < (s.size : Int)) = false from decide_eq_false (by show ¬ ((at_ : Int) < (s.size : Int)); omega)]; rfl
      rw [loopO_done he, List.drop_eq_nil_of_le (by omega), textP]
      simp [qfin]
theorem lex_quoted_eq {s : ByteArray} (hs : s.size < 1073741824) (h0 : 0 < s.size) (hq : gB (tl s) 0 < 128) :
    lex_quoted s = some (match textP (gB (tl s) 0) ((tl s).drop 1) with | some (o, n) => (⟨o.toArray⟩, ((n + 1 : Nat) : Int)) | none => (⟨#[]⟩, 0)) := by
  unfold lex_quoted
  refine bind_of (show bx s 0 = some ((gB (tl s) 0 : Nat) : Int) from bx_tl (i := 0) h0) ?_
  have h := quoted_loop (s := s) hq hs (s.size - 1) 1 [] rfl (by omega) (by simp)
  obtain ⟨r, hr, hf⟩ := Option.map_eq_some_iff.1 h
  refine bind_of (show loopO (lex_quoted_l32 s ((gB (tl s) 0 : Nat) : Int)) ((), [], 1) = some r from hr) ?_
  refine Eq.trans (b := some (qfin r)) (by cases r <;> rfl) ?_
  rw [hf]
  cases textP (gB (tl s) 0) ((tl s).drop 1) with
  | none => rfl
  | some on => simp [Nat.add_comm]
/-! ### blanks and remarks -/
def sfin (e : Int) : (Unit) ⊕ (Int) → Int | .inl _ => e | .inr v => v
theorem skip_loop {s : ByteArray} {a : Nat} (hs : s.size + a < 1073741824) : ∀ (m p : Nat) (rem : Bool), s.size - p = m → p ≤ s.size →
    (loopO (lex_skip_l20 (a : Int) s) (p, rem)).map (sfin ((a + s.size : Nat) : Int)) = some ((a + p + (if rem then runL lineN ((tl s).drop p) + skipL ((tl s).drop (p + runL lineN ((tl s).drop p))) else skipL ((tl s).drop p)) : Nat) : Int) := by
  intro m
  induction m using Nat.strongRecOn with
  | _ m ih =>
    intro p rem hm hp
    have hl := tl_len s
    by_cases hlt : p < s.size
    · have hne : (tl s).drop p ≠ [] := by intro h; have := congrArg List.length h; rw [List.length_drop, List.length_nil] at this; omega
      have hw := decodeL_width ((tl s).drop p)
      have hwl := decodeL_le _ hne
      rw [List.length_drop] at hwl
      have hra : runeAt s p = (((decodeL ((tl s).drop p)).1 : Nat) : Int) := by unfold runeAt; rw [decodeL_drop]
      have hrw : runeW s p = (decodeL ((tl s).drop p)).2 := by unfold runeW; rw [decodeL_drop]
      have hg : gB ((tl s).drop p) 0 = gB (tl s) p := by rw [gB_drop]; rfl
      have hbody : lex_skip_l20 (a : Int) s (p, rem) =
          if (decodeL ((tl s).drop p)).1 = 10 then some (.inl (p + (decodeL ((tl s).drop p)).2, false))
          else if rem = true ∨ (decodeL ((tl s).drop p)).1 = 32 ∨ (decodeL ((tl s).drop p)).1 = 9 ∨ (decodeL ((tl s).drop p)).1 = 13 then some (.inl (p + (decodeL ((tl s).drop p)).2, rem))
          else if (decodeL ((tl s).drop p)).1 = 35 then some (.inl (p + (decodeL ((tl s).drop p)).2, true))
          else some (.inr (.inr ((a + p : Nat) : Int))) := by
        unfold lex_skip_l20
        simp only [hra, hrw]
        rw [decide_eq_true hlt, cond_true]
        generalize decodeL ((tl s).drop p) = D
        obtain ⟨d1, d2⟩ := D
        simp only
        have e1 : ∀ k : Nat, (((d1 : Nat) : Int) == (k : Int)) = decide (d1 = k) := fun k => by rw [Bool.eq_iff_iff, beq_iff_eq, decide_eq_true_eq]; omega
        rw [show (((d1 : Nat) : Int) == 10) = decide (d1 = 10) from e1 10, show (((d1 : Nat) : Int) == 32) = decide (d1 = 32) from e1 32, show (((d1 : Nat) : Int) == 9) = decide (d1 = 9) from e1 9, show (((d1 : Nat) : Int) == 13) = decide (d1 = 13) from e1 13, show (((d1 : Nat) : Int) == 35) = decide (d1 = 35) from e1 35,
          wrapN (n := a + p) (by omega) (by omega)]
        by_cases k1 : d1 = 10
        · simp [k1]
        by_cases k2 : d1 = 32
        · simp [k2]
        by_cases k3 : d1 = 9
        · simp [k3]
        by_cases k4 : d1 = 13
        · simp [k4]
        by_cases k5 : d1 = 35
        · cases rem <;> simp [k5]
        · cases rem <;> simp [k1, k2, k3, k4, k5]
      have step : ∀ (r' : Bool) (w : Nat), lex_skip_l20 (a : Int) s (p, rem) = some (.inl (p + w, r')) → 1 ≤ w → p + w ≤ s.size →
          (loopO (lex_skip_l20 (a : Int) s) (p, rem)).map (sfin ((a + s.size : Nat) : Int)) = some ((a + (p + w) + (if r' then runL lineN ((tl s).drop (p + w)) + skipL ((tl s).drop (p + w + runL lineN ((tl s).drop (p + w)))) else skipL ((tl s).drop (p + w))) : Nat) : Int) := fun r' w h1 h2 h3 => by
        rw [loopO_step h1]; exact ih (s.size - (p + w)) (by omega) (p + w) r' rfl h3
      by_cases h128 : gB ((tl s).drop p) 0 < 128
      · have hd := Go.GB.decode_ascii h128
        rw [hd] at hbody hwl
        simp only at hbody hwl
        rw [hg] at hbody h128
        generalize hc : gB (tl s) p = c at *
        have hsk : skipL ((tl s).drop p) = if blankN c = true then 1 + skipL ((tl s).drop (p + 1)) else if c = 35 then (1 + runL lineN ((tl s).drop (p + 1))) + skipL ((tl s).drop (p + (1 + runL lineN ((tl s).drop (p + 1))))) else 0 := by
          rw [skipL, dif_neg hne, hg, List.drop_drop, List.drop_drop]
        have hrl : runL lineN ((tl s).drop p) = if lineN c = true then runL lineN ((tl s).drop (p + 1)) + 1 else 0 := by rw [runL_step (by omega), hc]
        by_cases k1 : c = 10
        · rw [if_pos k1] at hbody
          rw [step _ _ hbody (by omega) (by omega)]
          subst k1
          rw [hrl, if_neg (show ¬ lineN 10 = true by decide)]
          simp only [Nat.add_zero, Nat.zero_add]
          rw [hsk, if_pos (show blankN 10 = true by decide)]
          congr 2
          cases rem with
          | true => simp only [if_true, Bool.false_eq_true, if_false]; omega
          | false => simp only [Bool.false_eq_true, if_false]; omega
        rw [if_neg k1] at hbody
        have hln : lineN c = true := by unfold lineN; simp [k1]
        rw [if_pos hln] at hrl
        by_cases k2 : rem = true ∨ c = 32 ∨ c = 9 ∨ c = 13
        · rw [if_pos k2] at hbody
          rw [step _ _ hbody (by omega) (by omega)]
          congr 2
          cases rem with
          | true =>
            simp only [if_true]
            rw [hrl, show p + 1 + runL lineN ((tl s).drop (p + 1)) = p + (runL lineN ((tl s).drop (p + 1)) + 1) from by omega]; omega
          | false =>
            have k3 : c = 32 ∨ c = 9 ∨ c = 13 := by rcases k2 with h | h; cases h; exact h
            have : blankN c = true := by unfold blankN; rcases k3 with rfl | rfl | rfl <;> rfl
            simp only [Bool.false_eq_true, if_false]
            rw [hsk, if_pos this]; omega
        rw [if_neg k2] at hbody
        rw [not_or, Bool.not_eq_true] at k2
        obtain ⟨rfl, k3⟩ := k2
        have hb : ¬ blankN c = true := by unfold blankN; simp; omega
        simp only [Bool.false_eq_true, if_false]
        rw [hsk, if_neg hb]
        by_cases k4 : c = 35
        · rw [if_pos k4] at hbody
          rw [step _ _ hbody (by omega) (by omega), if_pos k4]
          simp only [if_true]
          congr 2
          rw [show p + (1 + runL lineN ((tl s).drop (p + 1))) = p + 1 + runL lineN ((tl s).drop (p + 1)) from by omega]; omega
        · rw [if_neg k4] at hbody
          rw [loopO_done hbody, if_neg k4]; rfl
      · have hbig := Go.GB.decode_big (l := (tl s).drop p) (by omega)
        rw [if_neg (by omega)] at hbody
        cases rem with
        | true =>
          rw [if_pos (.inl rfl)] at hbody
          rw [step _ _ hbody (by omega) (by omega)]
          simp only [if_true]
          have hh := runL_high (p := lineN) (decodeL ((tl s).drop p)).2 ((tl s).drop p) (by rw [List.length_drop]; omega) (fun i hi => by
            have : 128 ≤ gB ((tl s).drop p) i := by
              by_cases h1 : (decodeL ((tl s).drop p)).2 = 1
              · have : i = 0 := by omega
                rw [this]; omega
              · exact Go.GB.decode_high hi h1
            unfold lineN; simp; omega)
          rw [hh, List.drop_drop]
          congr 2
          rw [show p + ((decodeL ((tl s).drop p)).2 + runL lineN ((tl s).drop (p + (decodeL ((tl s).drop p)).2))) = p + (decodeL ((tl s).drop p)).2 + runL lineN ((tl s).drop (p + (decodeL ((tl s).drop p)).2)) from by omega]; omega
        | false =>
          rw [if_neg (by simp; omega), if_neg (by omega)] at hbody
          rw [loopO_done hbody]
          simp only [Bool.false_eq_true, if_false]
          rw [skipL, dif_neg hne, if_neg (by unfold blankN; simp; omega), if_neg (by omega)]; rfl
    · have he : lex_skip_l20 (a : Int) s (p, rem) = some (.inr (.inl ())) := by
        unfold lex_skip_l20
        rw [show decide (((p, rem) : Nat × Bool).1 < s.size) = false from decide_eq_false hlt]; rfl
      rw [loopO_done he]
      have e0 : (tl s).drop p = [] := List.drop_eq_nil_of_le (by omega)
      have e1 : ∀ k, (tl s).drop (p + k) = [] := fun k => List.drop_eq_nil_of_le (by omega)
      have hk0 : skipL [] = 0 := by rw [skipL]; rfl
      rw [e0, runL_nil, e1, hk0]
      show some ((a + s.size : Nat) : Int) = _
      congr 2
      cases rem <;> simp <;> omega
theorem lex_skip_eq {s : ByteArray} {a : Nat} (hs : s.size < 536870912) (ha : a ≤ s.size) : lex_skip s (a : Int) = some ((a + skipL ((tl s).drop a) : Nat) : Int) := by
  have hl := tl_len s
  have htl : tl (s.extract a s.size) = (tl s).drop a := by rw [tl_extract, List.take_of_length_le (by rw [List.length_drop]; omega)]
  have hsz : (s.extract a s.size).size = s.size - a := by rw [← tl_len, htl, List.length_drop, hl]
  unfold lex_skip
  refine bind_of (sx_tl ha (Nat.le_refl _)) ?_
  have h := skip_loop (s := s.extract a s.size) (a := a) (by omega) _ 0 false rfl (Nat.zero_le _)
  obtain ⟨r, hr, hf⟩ := Option.map_eq_some_iff.1 h
  refine bind_of hr ?_
  refine Eq.trans (b := some (sfin ((a + (s.extract a s.size).size : Nat) : Int) r)) ?_ ?_
  · cases r with
    | inl u => show some (s.size : Int) = some ((a + (s.extract a s.size).size : Nat) : Int); rw [hsz]; congr 2; omega
    | inr v => rfl
  · rw [hf, htl]
    simp
end Go.Proofs.YtlhpclfkoblnkaaDoor

/- Plain laws: the program's tokens are the lists'. -/
set_option linter.unusedVariables false
set_option maxRecDepth 100000
namespace Go.Proofs.YtlhpclfkoblnkaaDoor
open Go.GB Go.Lib
def oneOk (l : List UInt8) (r : S27 × Int) : Prop := match oneL l with
  | none => r.2 = 0
  | some (k, t, n) => r = (⟨(k : Int), ⟨t.toArray⟩, 0⟩, (n : Int))
theorem extract_ba {s : ByteArray} {n : Nat} (h : n ≤ s.size) : s.extract 0 n = ⟨((tl s).take n).toArray⟩ := by
  apply ba_eq
  show tl (s.extract 0 n) = (tl s).take n
  rw [tl_extract, List.drop_zero, Nat.sub_zero]
theorem ident_if {s : ByteArray} {n : Nat} : (bif decide ((n : Int) < (s.size : Int)) then Option.bind (bx s (n : Int)) fun c36 => bif lex_letter c36 then some true else Option.bind (bx s (n : Int)) fun c39 => bif lex_digit c39 then some true else Option.bind (bx s (n : Int)) fun c42 => some (c42 == 46) else some false) = some (identN (gB (tl s) n)) := by
  refine at_if identN rfl (fun hi => ?_)
  have hb := gB_lt (tl s) n
  rw [let_eq hb, bx_tl hi]
  simp only [Option.bind_some, dig_eq hb]
  unfold identN
  have e1 : (((gB (tl s) n : Nat) : Int) == 46) = decide (gB (tl s) n = 46) := by rw [Bool.eq_iff_iff, beq_iff_eq, decide_eq_true_eq]; omega
  rw [e1]
  cases letN (gB (tl s) n) <;> cases digN (gB (tl s) n) <;> rfl
theorem lex_one_eq {s : ByteArray} (hs : s.size < 536870912) (h0 : 0 < s.size) : ∃ r, lex_one s = some r ∧ oneOk (tl s) r := by
  have hl := tl_len s
  have hb := gB_lt (tl s) 0
  have hne : tl s ≠ [] := by intro h; rw [h] at hl; simp at hl; omega
  unfold lex_one oneOk oneL
  rw [show bx s 0 = some ((gB (tl s) 0 : Nat) : Int) from bx_tl (i := 0) h0, Option.bind_some, let_eq hb]
  by_cases c1 : letN (gB (tl s) 0) = true
  · rw [c1, cond_true, if_pos rfl]
    have hr := lex_run_eq (s := s) (a := 0) (fun c => letN c || digN c) (f := fun x0 => some (lex_one_1 x0)) (by omega) (by omega) (fun c hc => by rw [ident_eq hc]) rfl
    rw [List.drop_zero] at hr
    rw [show lex_run s 0 (fun x0 => some (lex_one_1 x0)) = _ from hr, Option.bind_some]
    have hle := runL_le (fun c => letN c || digN c) (tl s)
    rw [show sx s 0 _ = _ from sx_tl (a := 0) (b := runL (fun c => letN c || digN c) (tl s)) (by omega) (by omega), Option.bind_some, extract_ba (by omega)]
    exact ⟨_, rfl, rfl⟩
  rw [Bool.not_eq_true] at c1
  rw [c1, cond_false, if_neg (by simp), dig_eq hb]
  have e46 : (((gB (tl s) 0 : Nat) : Int) == 46) = decide (gB (tl s) 0 = 46) := by rw [Bool.eq_iff_iff, beq_iff_eq, decide_eq_true_eq]; omega
  rw [e46]
  by_cases c2 : digN (gB (tl s) 0) = true ∨ gB (tl s) 0 = 46
  · rw [show (digN (gB (tl s) 0) || decide (gB (tl s) 0 = 46)) = true from by rcases c2 with h | h <;> simp [h], cond_true, if_pos c2, lex_number_eq (by omega), Option.bind_some, lex_span_eq (by omega), Option.bind_some]
    have hnl := numL_le (tl s)
    have hsl := spanL_le (tl s)
    unfold numTok
    generalize spanL (tl s) = m at *
    generalize numL (tl s) = n at *
    have hj : (bif decide (((m : Nat) : Int) > ((n : Nat) : Int)) then some ((3 : Int), ((m : Nat) : Int)) else some (2, ((n : Nat) : Int))) = some ((((if m > n then 3 else 2) : Nat) : Int), (((if m > n then m else n) : Nat) : Int)) := by
      by_cases h : m > n
      · rw [decide_eq_true (by omega), if_pos h, if_pos h]; rfl
      · rw [decide_eq_false (by omega), if_neg h, if_neg h]; rfl
    rw [hj, Option.bind_some]
    have hel : (if m > n then m else n) ≤ s.size := by split <;> omega
    generalize (if m > n then m else n) = e at *
    generalize (if m > n then 3 else 2) = k at *
    simp only
    rw [ident_if, Option.bind_some]
    by_cases hc : identN (gB (tl s) e) = true
    · rw [hc, cond_true, if_pos (Or.inr rfl)]
      exact ⟨_, rfl, rfl⟩
    · rw [Bool.not_eq_true] at hc
      rw [hc, cond_false, show sx s 0 _ = _ from sx_tl (a := 0) (b := e) (by omega) hel, Option.bind_some, extract_ba hel]
      by_cases he : e = 0
      · rw [if_pos (Or.inl he)]; exact ⟨_, rfl, by subst he; rfl⟩
      · rw [if_neg (by simp [he])]; exact ⟨_, rfl, rfl⟩
  have c2a : (digN (gB (tl s) 0) || decide (gB (tl s) 0 = 46)) = false := by
    rw [not_or] at c2; simp [c2.1, c2.2]
  rw [c2a, cond_false, if_neg c2]
  have e34 : (((gB (tl s) 0 : Nat) : Int) == 34) = decide (gB (tl s) 0 = 34) := by rw [Bool.eq_iff_iff, beq_iff_eq, decide_eq_true_eq]; omega
  have e39 : (((gB (tl s) 0 : Nat) : Int) == 39) = decide (gB (tl s) 0 = 39) := by rw [Bool.eq_iff_iff, beq_iff_eq, decide_eq_true_eq]; omega
  rw [e34, e39]
  by_cases c3 : gB (tl s) 0 = 34 ∨ gB (tl s) 0 = 39
  · rw [show (decide (gB (tl s) 0 = 34) || decide (gB (tl s) 0 = 39)) = true from by rcases c3 with h | h <;> simp [h], cond_true, if_pos c3, lex_quoted_eq (by omega) h0 (by omega), Option.bind_some]
    cases textP (gB (tl s) 0) ((tl s).drop 1) with
    | none => exact ⟨_, rfl, rfl⟩
    | some on => exact ⟨_, rfl, rfl⟩
  · have c3a : (decide (gB (tl s) 0 = 34) || decide (gB (tl s) 0 = 39)) = false := by
      rw [not_or] at c3; simp [c3.1, c3.2]
    rw [c3a, cond_false, if_neg c3, lex_one_signs, Option.bind_some]
    cases signL (tl s) with
    | none => exact ⟨_, rfl, rfl⟩
    | some x => exact ⟨_, rfl, rfl⟩
/-! ### tokens -/
def tokOf (t : Tk3) : S27 := ⟨(t.kind : Int), ⟨t.text.toArray⟩, (t.at_ : Int)⟩
theorem tokens_loop {s : ByteArray} (hs : s.size ≤ 65536) : ∀ (m a : Nat) (acc : List S27), s.size - a = m → a ≤ s.size → acc.length ≤ a →
    loopO (lex_Tokens_l32 s) (acc, ((a + skipL ((tl s).drop a) : Nat) : Int)) = some (match toksL ((tl s).drop a) a with | .inl r => .inl (acc ++ r.map tokOf) | .inr p => .inr ([], 130, (p : Int))) := by
  intro m
  induction m using Nat.strongRecOn with
  | _ m ih =>
    intro a acc hm ha hacc
    have hl := tl_len s
    have hsk := skipL_le ((tl s).drop a)
    rw [List.length_drop] at hsk
    by_cases he : (tl s).drop (a + skipL ((tl s).drop a)) = []
    · rw [toksL_end (by rw [List.drop_drop]; exact he)]
      have hsz : ¬ (a + skipL ((tl s).drop a) < s.size) := by
        intro h
        have := congrArg List.length he
        rw [List.length_drop, List.length_nil] at this; omega
      refine (loopO_done (r := Sum.inl acc) ?_).trans ?_
      · unfold lex_Tokens_l32
        rw [decide_eq_false (by show ¬ (((a + skipL ((tl s).drop a) : Nat) : Int) < (s.size : Int)); omega)]; rfl
      · simp
    · have hlt : a + skipL ((tl s).drop a) < s.size := by
        rcases Nat.lt_or_ge (a + skipL ((tl s).drop a)) s.size with h | h
        · exact h
        · exact absurd (List.drop_eq_nil_of_le (by omega)) he
      obtain ⟨b, hb⟩ : ∃ b, a + skipL ((tl s).drop a) = b := ⟨_, rfl⟩
      have hdd : ((tl s).drop a).drop (skipL ((tl s).drop a)) = (tl s).drop b := by rw [List.drop_drop, hb]
      rw [hb] at he hlt ⊢
      have hsx : sx s (b : Int) (s.size : Int) = some (s.extract b s.size) := sx_tl (by omega) (Nat.le_refl _)
      have htl : tl (s.extract b s.size) = (tl s).drop b := by rw [tl_extract, List.take_of_length_le (by rw [List.length_drop]; omega)]
      have hsz : (s.extract b s.size).size = s.size - b := by rw [← tl_len, htl, List.length_drop, hl]
      obtain ⟨⟨tok, n⟩, h1, h2⟩ := lex_one_eq (s := s.extract b s.size) (by omega) (by omega)
      rw [htl] at h2
      unfold oneOk at h2
      cases ho : oneL ((tl s).drop b) with
      | none =>
        rw [ho] at h2
        simp only at h2
        subst h2
        rw [toksL_bad (by rw [hdd]; exact he) (by rw [hdd]; exact ho), hb]
        refine loopO_done (r := Sum.inr ([], 130, (b : Int))) ?_
        unfold lex_Tokens_l32
        rw [decide_eq_true (by show (b : Int) < (s.size : Int); omega), cond_true]
        show Option.bind (sx s (b : Int) (s.size : Int)) _ = _
        rw [hsx, Option.bind_some, h1]; rfl
      | some ktn =>
        obtain ⟨k, t, n'⟩ := ktn
        rw [ho] at h2
        simp only [Prod.mk.injEq] at h2
        obtain ⟨h2a, h2b⟩ := h2
        subst h2b
        have hp := oneL_pos ho
        rw [List.length_drop] at hp
        have hbody : lex_Tokens_l32 s (acc, (b : Int)) = some (.inl (acc ++ [tokOf ⟨k, t, b⟩], ((b + n' + skipL ((tl s).drop (b + n')) : Nat) : Int))) := by
          unfold lex_Tokens_l32
          rw [decide_eq_true (by show (b : Int) < (s.size : Int); omega), cond_true]
          show Option.bind (sx s (b : Int) (s.size : Int)) _ = _
          rw [hsx, Option.bind_some, h1, Option.bind_some]
          simp only
          rw [show (((n' : Nat) : Int) == 0) = false from by rw [beq_eq_false_iff_ne]; omega, cond_false, app_eq (by simp; omega), Option.bind_some, wrapN (n := b + n') (by omega) (by omega), lex_skip_eq (by omega) (by omega), Option.bind_some, h2a]
          rfl
        rw [toksL_cons (by rw [hdd]; exact he) (by rw [hdd]; exact ho), hb, loopO_step hbody, ih (s.size - (b + n')) (by omega) (b + n') _ rfl (by omega) (by simp; omega), List.drop_drop, show a + (skipL ((tl s).drop a) + n') = b + n' from by omega]
        cases toksL ((tl s).drop (b + n')) (b + n') with
        | inl r => simp [tokOf]
        | inr p => rfl
def endTok (s : ByteArray) : S27 := ⟨0, ⟨#[]⟩, (s.size : Int)⟩
/-- the tokens of a text, or its fault -/
def tokR (s : ByteArray) : List S27 × Int × Int :=
  if s.size > 65536 then ([], 4, 0) else match toksL (tl s) 0 with
    | .inl r => if r.length + 1 > 4096 then ([], 7, 0) else (r.map tokOf ++ [endTok s], 0, 0)
    | .inr p => ([], 130, (p : Int))
theorem lex_Tokens_eq (s : ByteArray) : lex_Tokens s = some (tokR s) := by
  unfold lex_Tokens tokR
  by_cases hs : s.size > 65536
  · rw [decide_eq_true (by omega), cond_true, if_pos hs]
  rw [decide_eq_false (by omega), cond_false, if_neg hs]
  have h1 := lex_skip_eq (s := s) (a := 0) (by omega) (Nat.zero_le _)
  rw [List.drop_zero, Nat.zero_add] at h1
  refine bind_of h1 ?_
  have h2 := tokens_loop (s := s) (by omega) s.size 0 [] (by omega) (Nat.zero_le _) (by simp)
  rw [List.drop_zero, Nat.zero_add] at h2
  refine bind_of h2 ?_
  cases hr : toksL (tl s) 0 with
  | inl r =>
    have hrl := toksL_len _ _ _ hr
    have hl := tl_len s
    simp only [List.nil_append]
    rw [app_eq (by simp; omega), Option.bind_some]
    simp only [List.length_append, List.length_map, List.length_cons, List.length_nil]
    by_cases hn : r.length + 1 > 4096
    · rw [decide_eq_true (by omega), cond_true, if_pos hn]
    · rw [decide_eq_false (by omega), cond_false, if_neg hn]; rfl
  | inr p => rfl
end Go.Proofs.YtlhpclfkoblnkaaDoor

/- Plain laws: the document's Utf8 is the library's. -/
set_option linter.unusedVariables false
set_option maxRecDepth 100000
namespace Go.Proofs.YtlhpclfkoblnkaaDoor
open Go.GB Go.Lib
theorem valid_eq {s : ByteArray} (hs : s.size < 4611686018427387904) : utf8_ValidString s = some (validD s.data.toList) := by
  unfold utf8_ValidString
  rw [if_pos (by omega)]
end Go.Proofs.YtlhpclfkoblnkaaDoor

/- Plain laws: the document's scans are the lists'. -/
set_option linter.unusedVariables false
set_option maxRecDepth 100000
namespace Go.Proofs.YtlhpclfkoblnkaaDoor
open Go.GB Go.Lib
end Go.Proofs.YtlhpclfkoblnkaaDoor

/- Plain laws: the document's tokens are the lists'. -/
set_option linter.unusedVariables false
set_option maxRecDepth 100000
namespace Go.GB
open Go.Lib
end Go.GB
namespace Go.Proofs.YtlhpclfkoblnkaaDoor
open Go.GB Go.Lib
end Go.Proofs.YtlhpclfkoblnkaaDoor

/- Plain laws: the document's texts in quotes, its tokens; LexTokens. -/
set_option linter.unusedVariables false
set_option maxRecDepth 100000
namespace Go.Proofs.YtlhpclfkoblnkaaDoor
open Go.GB Go.Lib
end Go.Proofs.YtlhpclfkoblnkaaDoor

/- Plain laws: one token and all tokens, as the document has them. -/
set_option linter.unusedVariables false
set_option maxRecDepth 100000
namespace Go.Proofs.YtlhpclfkoblnkaaDoor
open Go.GB Go.Lib
theorem extract_ba2 {s : ByteArray} {a n : Nat} : s.extract a (a + n) = ⟨(((tl s).drop a).take n).toArray⟩ := by
  apply ba_eq
  show tl (s.extract a (a + n)) = ((tl s).drop a).take n
  rw [tl_extract, show a + n - a = n from by omega]
theorem known_true : tocsinlaw13_known = some true := tocsinlaw13_known_ev _ (by kernel_rfl)
end Go.Proofs.YtlhpclfkoblnkaaDoor

/- Plain laws: a token hangs on its own bytes and on what stands right behind it. -/
set_option linter.unusedVariables false
namespace Go.GB
open Go.Lib
theorem gB_agree {l l' : List UInt8} {e i : Nat} (h : l'.take e = l.take e) (hi : i < e) : gB l' i = gB l i := by
  unfold gB; rw [take_getD h hi]
theorem agree_le {l l' : List UInt8} {e n : Nat} (h : l'.take e = l.take e) (hn : n ≤ e) : l'.take n = l.take n := by
  have := congrArg (List.take n) h
  rwa [List.take_take, List.take_take, Nat.min_eq_left hn] at this
theorem agree_drop {l l' : List UInt8} {e a n : Nat} (h : l'.take e = l.take e) (hn : a + n ≤ e) : (l'.drop a).take n = (l.drop a).take n := by
  have h2 := agree_le h hn
  have := congrArg (List.drop a) h2
  rwa [List.drop_take, List.drop_take, Nat.add_sub_cancel_left] at this
theorem runL_char {p : Nat → Bool} {l : List UInt8} {r : Nat} (hl : r ≤ l.length) (h : ∀ i, i < r → p (gB l i) = true) (he : p (gB l r) = false) : runL p l = r := by
  rcases Nat.lt_trichotomy (runL p l) r with h1 | h1 | h1
  · have := runL_end (p := p) (l := l) (by omega)
    rw [h _ h1] at this; cases this
  · exact h1
  · have := (runL_in h1).2
    rw [this] at he; cases he
theorem runL_stop {p : Nat → Bool} (h0 : p 0 = false) (l : List UInt8) : p (gB l (runL p l)) = false := by
  rcases Nat.lt_or_ge (runL p l) l.length with h | h
  · exact runL_end h
  · rw [gBn_out h, h0]
/-- a run of a text that agrees up to e -/
theorem runL_agree {p : Nat → Bool} (h0 : p 0 = false) {l l' : List UInt8} {e : Nat} (h : l'.take e = l.take e) (hr : runL p l ≤ e) (hl : e ≤ l'.length) (he : p (gB l' e) = false) : runL p l' = runL p l := by
  refine runL_char (by omega) (fun i hi => by rw [gB_agree h (by omega)]; exact (runL_in hi).2) ?_
  rcases Nat.lt_or_ge (runL p l) e with h1 | h1
  · rw [gB_agree h h1]; exact runL_stop h0 l
  · rw [show runL p l = e from by omega]; exact he
theorem ident_not {c : Nat} (h : identN c = false) : letN c = false ∧ digN c = false ∧ c ≠ 46 := by
  unfold identN at h
  simp only [Bool.or_eq_false_iff, decide_eq_false_iff_not] at h
  exact ⟨h.1.1, h.1.2, h.2⟩
theorem ident_low {c : Nat} (h : identN c = false) : lowN c = false := by
  cases hl : lowN c with
  | false => rfl
  | true => rw [low_ident hl] at h; cases h
theorem ident_hex {c : Nat} (h : identN c = false) : hexN c = false := by
  have h2 := ident_not h
  cases hx : hexN c with
  | false => rfl
  | true => unfold hexN at hx; rw [h2.2.1] at hx; have := h2.1; unfold letN at this; simp at hx this; omega
theorem ident_ne {c : Nat} (h : identN c = false) : c ≠ 46 ∧ c ≠ 101 ∧ c ≠ 69 ∧ c ≠ 120 ∧ c ≠ 88 := by
  refine ⟨(ident_not h).2.2, ?_, ?_, ?_, ?_⟩ <;> (rintro rfl; exact absurd h (by decide))
theorem unitL_first {l : List UInt8} {first i : Nat} (h : unitL l first = some i) : gB l 0 = 121 ∨ gB l 0 = 119 ∨ gB l 0 = 100 ∨ gB l 0 = 104 ∨ gB l 0 = 109 ∨ gB l 0 = 115 := by
  have h1 := unitL_some h
  have h2 := unitL_run h
  have h3 := uName_len h1.1
  have h4 : gB l 0 = gB (uName i) 0 := by
    rw [← h1.2.2]
    unfold gB
    rw [List.getD_eq_getElem?_getD, List.getD_eq_getElem?_getD, List.getElem?_take, if_pos (by omega)]
  rw [h4]
  have : ∀ j : Fin 7, gB (uName j.val) 0 = 121 ∨ gB (uName j.val) 0 = 119 ∨ gB (uName j.val) 0 = 100 ∨ gB (uName j.val) 0 = 104 ∨ gB (uName j.val) 0 = 109 ∨ gB (uName j.val) 0 = 115 := by decide
  exact this ⟨i, h1.1⟩
theorem unitL_same {l l' : List UInt8} (h : l'.take (runL lowN l') = l.take (runL lowN l)) (first : Nat) : unitL l' first = unitL l first := by unfold unitL; rw [h]
theorem spanGo_agree : ∀ (f : Nat) (l l' : List UInt8) (first sum sum' : Nat), l'.take (spanGo f l first sum).1 = l.take (spanGo f l first sum).1 → (spanGo f l first sum).1 ≤ l'.length → identN (gB l' (spanGo f l first sum).1) = false → identN (gB l (spanGo f l first sum).1) = false →
    (spanGo f l' first sum').1 = (spanGo f l first sum).1
  | 0, _, _, _, _, _, _, _, _, _ => rfl
  | f + 1, l, l', first, sum, sum', ha, hl, hb', hb => by
    by_cases hd : runL digN l = 0
    · have hs : (spanGo (f + 1) l first sum).1 = 0 := by unfold spanGo; rw [if_pos hd]
      rw [hs] at hb' hl ⊢
      have : runL digN l' = 0 := runL_char (Nat.zero_le _) (fun i hi => by omega) (ident_not hb').2.1
      unfold spanGo; rw [if_pos this]
    · cases hu : unitL (l.drop (runL digN l)) first with
      | none =>
        have hs : (spanGo (f + 1) l first sum).1 = 0 := by unfold spanGo; rw [if_neg hd, hu]
        rw [hs] at hb
        have := (runL_in (p := digN) (l := l) (i := 0) (by omega)).2
        rw [(ident_not hb).2.1] at this; cases this
      | some i =>
        have hs : (spanGo (f + 1) l first sum).1 = runL digN l + (uName i).length + (spanGo f (l.drop (runL digN l + (uName i).length)) (i + 1) (min (sum + timesL (l.take (runL digN l)) (uMs i)) (maxS + 1))).1 := by
          conv => lhs; unfold spanGo
          rw [if_neg hd, hu]
        rw [hs] at ha hl hb' hb ⊢
        have hi := unitL_some hu
        have hr := unitL_run hu
        have hn := uName_len hi.1
        generalize hS : (spanGo f (l.drop (runL digN l + (uName i).length)) (i + 1) (min (sum + timesL (l.take (runL digN l)) (uMs i)) (maxS + 1))).1 = S at *
        have hD : runL digN l' = runL digN l := by
          refine runL_char (by omega) (fun j hj => by rw [gB_agree ha (by omega)]; exact (runL_in hj).2) ?_
          rw [gB_agree ha (by omega)]; exact runL_stop rfl l
        have hU : runL lowN (l'.drop (runL digN l)) = (uName i).length := by
          refine runL_char (by rw [List.length_drop]; omega) (fun j hj => ?_) ?_
          · rw [gB_drop, gB_agree ha (by omega), ← gB_drop]; exact (runL_in (by rw [hr]; exact hj)).2
          · rw [gB_drop]
            rcases Nat.eq_zero_or_pos S with h0 | h0
            · rw [h0, Nat.add_zero] at hb'; exact ident_low hb'
            · rw [gB_agree ha (by omega), ← gB_drop, ← hr]; exact runL_stop rfl _
        have hu' : unitL (l'.drop (runL digN l)) first = some i := by
          rw [unitL_same (l := l.drop (runL digN l)) (by rw [hU, hr]; exact agree_drop ha (by omega)), hu]
        have hs' : (spanGo (f + 1) l' first sum').1 = runL digN l + (uName i).length + (spanGo f (l'.drop (runL digN l + (uName i).length)) (i + 1) (min (sum' + timesL (l'.take (runL digN l)) (uMs i)) (maxS + 1))).1 := by
          conv => lhs; unfold spanGo
          rw [hD, if_neg hd, hu']
        rw [hs']
        have := spanGo_agree f (l.drop (runL digN l + (uName i).length)) (l'.drop (runL digN l + (uName i).length)) (i + 1) (min (sum + timesL (l.take (runL digN l)) (uMs i)) (maxS + 1)) (min (sum' + timesL (l'.take (runL digN l)) (uMs i)) (maxS + 1))
          (by rw [hS]; exact agree_drop ha (by omega)) (by rw [hS, List.length_drop]; omega) (by rw [hS, gB_drop]; exact hb') (by rw [hS, gB_drop]; exact hb)
        rw [this, hS]
/-- a duration has a unit right behind its first digits -/
theorem spanL_pos {l : List UInt8} (h : 0 < spanL l) : 0 < runL digN l ∧ runL digN l < spanL l ∧ ∃ i, unitL (l.drop (runL digN l)) 0 = some i := by
  unfold spanL spanGo at *
  by_cases hd : runL digN l = 0
  · rw [if_pos hd] at h; exact absurd h (by simp)
  rw [if_neg hd] at *
  cases hu : unitL (l.drop (runL digN l)) 0 with
  | none => rw [hu] at h; exact absurd h (by simp)
  | some i =>
    have := uName_len (unitL_some hu).1
    simp only
    exact ⟨by omega, by omega, i, rfl⟩
theorem spanL_zero {l : List UInt8} (h : unitL (l.drop (runL digN l)) 0 = none) : spanL l = 0 := by
  rcases Nat.eq_zero_or_pos (spanL l) with h0 | h0
  · exact h0
  · obtain ⟨_, _, i, hi⟩ := spanL_pos h0
    rw [h] at hi; cases hi
/-- digits right ahead of what is no dot, no exponent, are a number -/
theorem numL_dig {l : List UInt8} (hx : ¬ (gB l 0 = 48 ∧ (gB l 1 = 120 ∨ gB l 1 = 88))) (h1 : gB l (runL digN l) ≠ 46) (h2 : gB l (runL digN l) ≠ 101) (h3 : gB l (runL digN l) ≠ 69) : numL l = runL digN l := by
  unfold numL numA
  rw [if_neg (fun h => hx ⟨h.1, h.2.1⟩), if_neg h1]
  split
  · omega
  · unfold expL; rw [if_neg (by omega)]
theorem numA_ge {l : List UInt8} (h : numA l (runL digN l) ≠ 0) : runL digN l ≤ numA l (runL digN l) := by
  unfold numA at *
  split
  · rename_i hd
    rw [if_pos hd] at h
    split
    · rename_i h0; rw [if_pos h0] at h; exact absurd rfl h
    · omega
  · omega
set_option maxHeartbeats 2000000 in
theorem numTok_agree {l l' : List UInt8} {k e : Nat} {t : List UInt8} (h : numTok l (spanL l) = some (k, t, e)) (ha : l'.take e = l.take e) (hl : e ≤ l'.length) (hb' : identN (gB l' e) = false) :
    numTok l' (spanL l') = some (k, t, e) := by
  obtain ⟨h1, h2, rfl, hb, he, hk⟩ := numTok_some (spanL_le l) h
  have hnd := ident_not hb'
  have hne := ident_ne hb'
  have hne2 := ident_ne hb
  suffices hh : (spanL l' > numL l' ↔ spanL l > numL l) ∧ (if spanL l' > numL l' then spanL l' else numL l') = e by
    unfold numTok
    simp only
    rw [hh.2, if_neg (by rw [hb']; simp; omega)]
    congr 2
    · rw [hk]; by_cases hg : spanL l > numL l
      · rw [if_pos hg, if_pos (hh.1.2 hg)]
      · rw [if_neg hg, if_neg (fun h => hg (hh.1.1 h))]
    · rw [ha]
  by_cases hg : spanL l > numL l
  · rw [if_pos hg] at he
    obtain ⟨hD0, hD1, i, hi⟩ := spanL_pos (l := l) (by omega)
    have hfst := unitL_first hi
    rw [gB_drop, Nat.add_zero] at hfst
    have hsp : spanL l' = spanL l := by
      have := spanGo_agree 8 l l' 0 0 0 (by rw [show (spanGo 8 l 0 0).1 = spanL l from rfl, ← he]; exact ha) (by rw [show (spanGo 8 l 0 0).1 = spanL l from rfl, ← he]; exact hl) (by rw [show (spanGo 8 l 0 0).1 = spanL l from rfl, ← he]; exact hb') (by rw [show (spanGo 8 l 0 0).1 = spanL l from rfl, ← he]; exact hb)
      exact this
    have hD : runL digN l' = runL digN l := runL_agree rfl ha (by omega) hl hnd.2.1
    have hx : ∀ x : List UInt8, gB x 1 = gB l 1 → ¬ (gB x 0 = 48 ∧ (gB x 1 = 120 ∨ gB x 1 = 88)) := fun x hx1 h => by
      rw [hx1] at h
      rcases Nat.lt_or_ge 1 (runL digN l) with h5 | h5
      · have := (runL_in h5).2
        unfold digN at this; simp at this; omega
      · rw [show runL digN l = 1 from by omega] at hfst; omega
    have hN : numL l = runL digN l := numL_dig (hx l rfl) (by omega) (by omega) (by omega)
    have hgD : gB l' (runL digN l) = gB l (runL digN l) := gB_agree ha (by omega)
    have hN' : numL l' = runL digN l' := numL_dig (hx l' (gB_agree ha (by omega))) (by rw [hD, hgD]; omega) (by rw [hD, hgD]; omega) (by rw [hD, hgD]; omega)
    rw [hsp, hN', hD, hN]
    rw [hN] at hg
    exact ⟨Iff.rfl, by rw [if_pos hg, he]⟩
  · rw [if_neg hg] at he
    have fin : numL l' = e → spanL l' = 0 → (spanL l' > numL l' ↔ spanL l > numL l) ∧ (if spanL l' > numL l' then spanL l' else numL l') = e := fun h4 h5 => by
      rw [h4, h5]
      exact ⟨⟨fun h => by omega, fun h => absurd h hg⟩, if_neg (by omega)⟩
    by_cases hX : gB l 0 = 48 ∧ (gB l 1 = 120 ∨ gB l 1 = 88) ∧ 0 < runL hexN (l.drop 2)
    · have heX : e = 2 + runL hexN (l.drop 2) := by rw [he]; unfold numL; rw [if_pos hX]
      have g0 : gB l' 0 = gB l 0 := gB_agree ha (by omega)
      have g1 : gB l' 1 = gB l 1 := gB_agree ha (by omega)
      have hR : runL hexN (l'.drop 2) = runL hexN (l.drop 2) := runL_agree (e := e - 2) rfl (agree_drop ha (by omega)) (by omega) (by rw [List.length_drop]; omega) (by rw [gB_drop, show 2 + (e - 2) = e from by omega]; exact ident_hex hb')
      refine fin ?_ ?_
      · unfold numL; rw [g0, g1, hR, if_pos hX, heX]
      · have hD : runL digN l' = 1 := runL_char (by omega) (fun i hi => by
          have : i = 0 := by omega
          rw [this, g0, hX.1]; decide) (by rw [g1]; rcases hX.2.1 with h | h <;> rw [h] <;> decide)
        refine spanL_zero ?_
        rw [hD]
        cases hu : unitL (l'.drop 1) 0 with
        | none => rfl
        | some i =>
          have := unitL_first hu
          rw [gB_drop, Nat.add_zero, g1] at this
          omega
    · have hM0 : numA l (runL digN l) ≠ 0 := by
        intro h0
        have : numL l = 0 := by unfold numL; rw [if_neg hX, if_pos h0]
        omega
      have heE : e = expL l (numA l (runL digN l)) := by rw [he]; unfold numL; rw [if_neg hX, if_neg hM0]
      have hMD := numA_ge hM0
      have hMl := numA_le (l := l) (a := runL digN l) (runL_le _ _)
      have hMe := (expL_le hMl).1
      rw [← heE] at hMe
      have hX' : ¬ (gB l' 0 = 48 ∧ (gB l' 1 = 120 ∨ gB l' 1 = 88) ∧ 0 < runL hexN (l'.drop 2)) := by
        intro hx
        rcases Nat.lt_or_ge 1 e with h5 | h5
        · have g0 : gB l' 0 = gB l 0 := gB_agree ha (by omega)
          have g1 : gB l' 1 = gB l 1 := gB_agree ha (by omega)
          rw [g0, g1] at hx
          have hD1 : runL digN l = 1 := by
            have hp : 1 ≤ l.length := by omega
            refine runL_char hp (fun i hi => ?_) ?_
            · have : i = 0 := by omega
              rw [this, hx.1]; decide
            · rcases hx.2.1 with h | h <;> rw [h] <;> decide
          have : numA l 1 = 1 := by unfold numA; rw [if_neg (by omega)]
          rw [hD1, this] at heE
          unfold expL at heE
          rw [if_neg (by omega)] at heE
          omega
        · have : e = 1 := by omega
          rw [this] at hne; omega
      have hD : runL digN l' = runL digN l := runL_agree rfl ha (by omega) hl hnd.2.1
      generalize hDe : runL digN l = D at *
      have hlD : D ≤ l.length := by rw [← hDe]; exact runL_le _ _
      have hM : numA l' D = numA l D := by
        rcases Nat.lt_or_ge D e with h5 | h5
        · have g : gB l' D = gB l D := gB_agree ha h5
          unfold numA
          rw [g]
          by_cases hd : gB l D = 46
          · have hv : numA l D = if D + runL digN (l.drop (D + 1)) = 0 then 0 else D + 1 + runL digN (l.drop (D + 1)) := by unfold numA; rw [if_pos hd]
            have hz : D + runL digN (l.drop (D + 1)) ≠ 0 := fun h => by rw [hv, if_pos h] at hM0; exact hM0 rfl
            rw [if_neg hz] at hv
            have hB : runL digN (l'.drop (D + 1)) = runL digN (l.drop (D + 1)) := runL_agree (e := e - (D + 1)) rfl (agree_drop ha (by omega)) (by omega) (by rw [List.length_drop]; omega) (by rw [gB_drop, show D + 1 + (e - (D + 1)) = e from by omega]; exact hnd.2.1)
            rw [if_pos hd, if_pos hd, hB]
          · rw [if_neg hd, if_neg hd]
        · have hDE : D = e := by omega
          unfold numA
          rw [hDE, if_neg hne.1, if_neg hne2.1]
      have hE : expL l' (numA l D) = expL l (numA l D) := by
        generalize numA l D = M at *
        rcases Nat.lt_or_ge M e with h5 | h5
        · have g : gB l' M = gB l M := gB_agree ha h5
          by_cases hc : gB l M = 101 ∨ gB l M = 69
          · have hv : expL l M = if 0 < runL digN (l.drop (expK l M)) then expK l M + runL digN (l.drop (expK l M)) else M := by unfold expL; rw [if_pos hc]
            have hR : 0 < runL digN (l.drop (expK l M)) := by
              rcases Nat.eq_zero_or_pos (runL digN (l.drop (expK l M))) with h0 | h0
              · rw [if_neg (by omega)] at hv; omega
              · exact h0
            rw [if_pos hR] at hv
            have hK0 : M + 1 ≤ expK l M := by unfold expK; split <;> omega
            have hK : expK l' M = expK l M := by
              unfold expK; rw [gB_agree ha (by omega)]
            have hR' : runL digN (l'.drop (expK l M)) = runL digN (l.drop (expK l M)) := runL_agree (e := e - expK l M) rfl (agree_drop ha (by omega)) (by omega) (by rw [List.length_drop]; omega) (by rw [gB_drop, show expK l M + (e - expK l M) = e from by omega]; exact hnd.2.1)
            conv => lhs; unfold expL
            rw [g, if_pos hc, hK, hR', if_pos hR, hv]
          · unfold expL
            rw [g, if_neg hc, if_neg hc]
        · have hME : M = e := by omega
          rw [← heE]
          unfold expL
          rw [hME, if_neg (by omega)]
      refine fin ?_ ?_
      · unfold numL
        rw [if_neg hX', hD, hM, if_neg hM0, hE, heE]
      · refine spanL_zero ?_
        rw [hD]
        cases hu : unitL (l'.drop D) 0 with
        | none => rfl
        | some i =>
          have hf := unitL_first hu
          rw [gB_drop, Nat.add_zero] at hf
          rcases Nat.lt_or_ge D e with h5 | h5
          · have g : gB l' D = gB l D := gB_agree ha h5
            rw [g] at hf
            have : numA l D = D := by unfold numA; rw [if_neg (by omega)]
            rw [this] at heE
            unfold expL at heE
            rw [if_neg (by omega)] at heE
            omega
          · have hDE : D = e := by omega
            rw [hDE] at hf
            have hlt := hnd.1
            unfold letN at hlt
            simp at hlt
            omega
end Go.GB

/- Plain laws: a token hangs on its own bytes and on what stands right behind it: any token; a text that is cut. -/
set_option linter.unusedVariables false
namespace Go.GB
open Go.Lib
theorem escL_agree {l l' : List UInt8} {x : UInt8} {k : Nat} (h : escL l = some (x, k)) (ha : l'.take k = l.take k) : escL l' = some (x, k) := by
  have hk := escL_low h
  have g0 : gB l' 0 = gB l 0 := gB_agree ha (by omega)
  have d0 : l'.getD 0 0 = l.getD 0 0 := take_getD ha (by omega)
  unfold escL at h ⊢
  rw [g0, d0]
  by_cases c1 : gB l 0 = 110
  · rw [if_pos c1] at h ⊢; exact h
  rw [if_neg c1] at h ⊢
  by_cases c2 : gB l 0 = 92 ∨ gB l 0 = 34 ∨ gB l 0 = 39
  · rw [if_pos c2] at h ⊢; exact h
  rw [if_neg c2] at h ⊢
  by_cases c3 : gB l 0 = 116
  · rw [if_pos c3] at h ⊢; exact h
  rw [if_neg c3] at h ⊢
  by_cases c4 : gB l 0 = 114
  · rw [if_pos c4] at h ⊢; exact h
  rw [if_neg c4] at h ⊢
  by_cases c5 : gB l 0 = 120 ∧ hexN (gB l 1) = true ∧ hexN (gB l 2) = true ∧ gB l 1 ≤ 55
  · rw [if_pos c5] at h
    have : k = 3 := by cases h; rfl
    subst this
    rw [gB_agree ha (show 1 < 3 by omega), gB_agree ha (show 2 < 3 by omega), if_pos c5]; exact h
  · rw [if_neg c5] at h; cases h
theorem textR_agree {q : Nat} : ∀ (m : Nat) (l l' : List UInt8) (o : List UInt8) (n : Nat), l.length = m → textR q l = some (o, n) → l'.take n = l.take n → n ≤ l'.length → textR q l' = some (o, n) := by
  intro m
  induction m using Nat.strongRecOn with
  | _ m ih =>
    intro l l' o n hm h ha hl
    have hp := textR_pos h
    have hne : l ≠ [] := by intro e; subst e; simp at hp; omega
    have hne' : l' ≠ [] := by intro e; subst e; simp at hl; omega
    have g0 : gB l' 0 = gB l 0 := gB_agree ha (by omega)
    have d0 : l'.getD 0 0 = l.getD 0 0 := take_getD ha (by omega)
    rw [textR, dif_neg hne] at h
    rw [textR, dif_neg hne', g0, d0]
    by_cases c1 : gB l 0 = q
    · rw [if_pos c1] at h ⊢; exact h
    rw [if_neg c1] at h ⊢
    by_cases c2 : gB l 0 = 10
    · rw [if_pos c2] at h; cases h
    rw [if_neg c2] at h ⊢
    by_cases c3 : gB l 0 = 92
    · rw [if_pos c3] at h ⊢
      cases he : escL (l.drop 1) with
      | none => rw [he] at h; cases h
      | some xk =>
        obtain ⟨x, k⟩ := xk
        rw [he] at h
        simp only at h
        obtain ⟨⟨o', n'⟩, h1, h2⟩ := Option.map_eq_some_iff.1 h
        simp only [Prod.mk.injEq] at h2
        obtain ⟨rfl, rfl⟩ := h2
        rw [escL_agree (l' := l'.drop 1) he (agree_drop ha (by omega))]
        simp only
        rw [ih _ (by rw [List.length_drop]; omega) (l.drop (1 + k)) (l'.drop (1 + k)) o' n' rfl h1 (agree_drop ha (by omega)) (by rw [List.length_drop]; omega)]
        rfl
    · rw [if_neg c3] at h ⊢
      obtain ⟨⟨o', n'⟩, h1, h2⟩ := Option.map_eq_some_iff.1 h
      simp only [Prod.mk.injEq] at h2
      obtain ⟨rfl, rfl⟩ := h2
      rw [ih _ (by rw [List.length_drop]; omega) (l.drop 1) (l'.drop 1) o' n' rfl h1 (agree_drop ha (by omega)) (by rw [List.length_drop]; omega)]
      rfl
theorem textP_some {q : Nat} (hq : q < 128) {l o : List UInt8} {n : Nat} : textP q l = some (o, n) ↔ textR q l = some (o, n) ∧ validD o = true ∧ validD (l.take (n - 1)) = true := by
  rw [textP_eq hq]
  cases hr : textR q l with
  | none => simp
  | some on =>
    obtain ⟨o', n'⟩ := on
    simp only
    split
    · rename_i hv
      simp only [Option.some.injEq, Prod.mk.injEq]
      constructor
      · rintro ⟨rfl, rfl⟩; exact ⟨⟨rfl, rfl⟩, hv⟩
      · rintro ⟨h, _⟩; exact h
    · rename_i hv
      constructor
      · intro h; cases h
      · rintro ⟨h1, h2⟩
        simp only [Option.some.injEq, Prod.mk.injEq] at h1
        obtain ⟨rfl, rfl⟩ := h1
        exact absurd h2 hv
theorem textP_agree {q : Nat} (hq : q < 128) {l l' o : List UInt8} {n : Nat} (h : textP q l = some (o, n)) (ha : l'.take n = l.take n) (hl : n ≤ l'.length) : textP q l' = some (o, n) := by
  rw [textP_some hq] at h ⊢
  exact ⟨textR_agree _ l l' o n rfl h.1 ha hl, h.2.1, by rw [agree_le ha (by omega)]; exact h.2.2⟩
theorem signsL_down : signsL.Pairwise (fun x y => y.length ≤ x.length) := by decide
theorem signL_some {l x : List UInt8} (h : signL l = some x) : x ∈ signsL ∧ x <+: l ∧ ∀ y ∈ signsL, y <+: l → y.length ≤ x.length := by
  unfold signL at h
  have h0 := h
  rw [List.find?_eq_some_iff_append] at h
  obtain ⟨hp, as1, bs, he, hn⟩ := h
  refine ⟨List.mem_of_find?_eq_some h0, List.isPrefixOf_iff_prefix.1 hp, fun y hy hyl => ?_⟩
  have hd := signsL_down
  rw [he] at hy hd
  rcases List.mem_append.1 hy with hy | hy
  · have := hn y hy
    rw [List.isPrefixOf_iff_prefix.2 hyl] at this; cases this
  · rcases List.mem_cons.1 hy with rfl | hy
    · exact Nat.le_refl _
    · rw [List.pairwise_append] at hd
      exact (List.pairwise_cons.1 hd.2.1).1 y hy
theorem signL_agree {l l' x : List UInt8} (h : signL l = some x) (ha : l'.take x.length = l.take x.length) (hl : x.length ≤ l'.length) (hb : ∀ y ∈ signsL, y <+: l' → y.length ≤ x.length) : signL l' = some x := by
  have h2 := signL_some h
  have hx : x <+: l' := by
    have := List.prefix_iff_eq_take.1 h2.2.1
    rw [List.prefix_iff_eq_take, ha]; exact this
  unfold signL at h ⊢
  rw [List.find?_eq_some_iff_append] at h ⊢
  obtain ⟨hp, as1, bs, he, hn⟩ := h
  refine ⟨List.isPrefixOf_iff_prefix.2 hx, as1, bs, he, fun y hy => ?_⟩
  have h3 := hn y hy
  cases hc : y.isPrefixOf l' with
  | false => rfl
  | true =>
    have h4 := List.isPrefixOf_iff_prefix.1 hc
    have h5 := hb y (by rw [he]; exact List.mem_append_left _ hy) h4
    have : y <+: l := by
      rw [List.prefix_iff_eq_take] at h4 ⊢
      rw [← agree_le ha h5]; exact h4
    rw [List.isPrefixOf_iff_prefix.2 this] at h3; cases h3
/-- what may stand behind a token so that it ends there -/
def endsAt (k : Nat) (l : List UInt8) (n : Nat) : Prop :=
  (k = 1 → (letN (gB l n) || digN (gB l n)) = false) ∧ (k = 2 ∨ k = 3 → identN (gB l n) = false) ∧ (k = 5 → ∀ y ∈ signsL, y <+: l → y.length ≤ n)
theorem oneL_kind {l t : List UInt8} {k n : Nat} (h : oneL l = some (k, t, n)) : 1 ≤ k ∧ k ≤ 5 ∧ (k ≠ 4 → t = l.take n) ∧ endsAt k l n := by
  unfold oneL at h
  by_cases c1 : letN (gB l 0) = true
  · rw [if_pos c1] at h
    simp only [Option.some.injEq, Prod.mk.injEq] at h
    obtain ⟨rfl, rfl, rfl⟩ := h
    exact ⟨by omega, by omega, fun _ => rfl, fun _ => runL_stop (p := fun c => letN c || digN c) rfl l, fun h => by omega, fun h => by omega⟩
  rw [if_neg c1] at h
  by_cases c2 : digN (gB l 0) = true ∨ gB l 0 = 46
  · rw [if_pos c2] at h
    obtain ⟨h1, h2, h3, h4, h5, h6⟩ := numTok_some (spanL_le l) h
    have : k = 2 ∨ k = 3 := by rw [h6]; split <;> simp
    exact ⟨by omega, by omega, fun _ => h3, fun h => by omega, fun _ => h4, fun h => by omega⟩
  rw [if_neg c2] at h
  by_cases c3 : gB l 0 = 34 ∨ gB l 0 = 39
  · rw [if_pos c3] at h
    obtain ⟨on, h1, h2⟩ := Option.map_eq_some_iff.1 h
    simp only [Prod.mk.injEq] at h2
    obtain ⟨rfl, _, _⟩ := h2
    exact ⟨by omega, by omega, fun h => absurd rfl h, fun h => by omega, fun h => by omega, fun h => by omega⟩
  rw [if_neg c3] at h
  obtain ⟨x, h1, h2⟩ := Option.map_eq_some_iff.1 h
  simp only [Prod.mk.injEq] at h2
  obtain ⟨rfl, rfl, rfl⟩ := h2
  have h3 := signL_some h1
  exact ⟨by omega, by omega, fun _ => List.prefix_iff_eq_take.1 h3.2.1, fun h => by omega, fun h => by omega, fun _ => h3.2.2⟩
/-- a token is the same wherever its bytes stand and it ends there -/
theorem oneL_agree {l l' t : List UInt8} {k n : Nat} (h : oneL l = some (k, t, n)) (ha : l'.take n = l.take n) (hl : n ≤ l'.length) (hb : endsAt k l' n) : oneL l' = some (k, t, n) := by
  have hp := oneL_pos h
  have g0 : gB l' 0 = gB l 0 := gB_agree ha (by omega)
  unfold oneL at h ⊢
  rw [g0]
  by_cases c1 : letN (gB l 0) = true
  · rw [if_pos c1] at h ⊢
    simp only [Option.some.injEq, Prod.mk.injEq] at h
    obtain ⟨rfl, rfl, hn⟩ := h
    have : runL (fun c => letN c || digN c) l' = n := by
      have h2 := runL_agree (p := fun c => letN c || digN c) (l := l) (l' := l') (e := n) rfl ha (by omega) hl (hb.1 rfl)
      rw [h2, hn]
    rw [hn, this, ha]
  rw [if_neg c1] at h ⊢
  by_cases c2 : digN (gB l 0) = true ∨ gB l 0 = 46
  · rw [if_pos c2] at h ⊢
    have : k = 2 ∨ k = 3 := by have := (numTok_some (spanL_le l) h).2.2.2.2.2; rw [this]; split <;> simp
    exact numTok_agree h ha hl (hb.2.1 this)
  rw [if_neg c2] at h ⊢
  by_cases c3 : gB l 0 = 34 ∨ gB l 0 = 39
  · rw [if_pos c3] at h ⊢
    obtain ⟨⟨o, n'⟩, h1, h2⟩ := Option.map_eq_some_iff.1 h
    simp only [Prod.mk.injEq] at h2
    obtain ⟨rfl, rfl, rfl⟩ := h2
    rw [textP_agree (l' := l'.drop 1) (by omega) h1 (agree_drop ha (by omega)) (by rw [List.length_drop]; omega)]
    rfl
  rw [if_neg c3] at h ⊢
  obtain ⟨x, h1, h2⟩ := Option.map_eq_some_iff.1 h
  simp only [Prod.mk.injEq] at h2
  obtain ⟨rfl, rfl, rfl⟩ := h2
  rw [signL_agree h1 ha hl (hb.2.2 rfl)]
  rfl
/-! ### blanks -/
theorem skipL_rec {l : List UInt8} (hl : l ≠ []) : skipL l = if blankN (gB l 0) = true then 1 + skipL (l.drop 1) else if gB l 0 = 35 then (1 + runL lineN (l.drop 1)) + skipL (l.drop (1 + runL lineN (l.drop 1))) else 0 := by
  rw [skipL, dif_neg hl]
/-! ### the tokens of a text that is cut ahead of one of them -/
end Go.GB

/- Plain laws: quoting, joining, over lists. -/
set_option linter.unusedVariables false
namespace Go.GB
open Go.Lib
def hxB (d : Nat) : UInt8 := if d < 10 then UInt8.ofNat (48 + d) else UInt8.ofNat (87 + d)
/-- a byte as it is written in quotes -/
def qB (c : UInt8) : List UInt8 :=
  if c.toNat = 92 ∨ c.toNat = 34 then [92, c] else if c.toNat = 10 then [92, 110] else if c.toNat = 9 then [92, 116] else if c.toNat = 13 then [92, 114]
  else if c.toNat < 32 ∨ c.toNat = 127 then [92, 120, hxB (c.toNat / 16), hxB (c.toNat % 16)] else [c]
def quoteL (l : List UInt8) : List UInt8 := 34 :: l.flatMap qB ++ [34]
theorem qB_len (c : UInt8) : (qB c).length ≤ 4 := by unfold qB; (repeat' split) <;> simp
theorem flat_len (l : List UInt8) : (l.flatMap qB).length ≤ 4 * l.length := by
  induction l with
  | nil => simp
  | cons c l ih => rw [List.flatMap_cons, List.length_append, List.length_cons]; have := qB_len c; omega
theorem quoteL_len (l : List UInt8) : (quoteL l).length ≤ 4 * l.length + 2 := by unfold quoteL; have := flat_len l; rw [List.length_append, List.length_cons, List.length_singleton]; omega
def aloneL (l : List UInt8) (k : Int) : Bool := match oneL l with
  | some (kd, _, n) => decide (n = l.length ∧ (kd : Int) = k)
  | none => false
theorem oneL_nil : oneL [] = none := by
  unfold oneL; simp [gB, letN, digN]; unfold signL; decide
theorem aloneL_true {l : List UInt8} {k : Int} (h : aloneL l k = true) : ∃ kd t, oneL l = some (kd, t, l.length) ∧ (kd : Int) = k := by
  unfold aloneL at h
  cases ho : oneL l with
  | none => rw [ho] at h; cases h
  | some x =>
    obtain ⟨kd, t, n⟩ := x
    rw [ho] at h
    simp only [decide_eq_true_eq] at h
    exact ⟨kd, t, by rw [h.1], h.2⟩
/-- a token as it is written -/
def wordL (k : Int) (t : List UInt8) : Option (List UInt8) :=
  if k = 4 then (if validD t = true then some (quoteL t) else none) else if aloneL t k = true then some t else none
theorem wordL_len {k : Int} {t w : List UInt8} (h : wordL k t = some w) : w.length ≤ 4 * t.length + 2 := by
  unfold wordL at h
  split at h
  · split at h
    · cases h; exact quoteL_len t
    · cases h
  · split at h
    · cases h; omega
    · cases h
/-- words, one behind the other; the i-th one is the first -/
def extL : Nat → List UInt8 → List (List UInt8) → List UInt8
  | _, acc, [] => acc
  | i, acc, w :: ws => extL (i + 1) ((if i > 0 then acc ++ [32] else acc) ++ w) ws
theorem extL_len : ∀ (ws : List (List UInt8)) (i : Nat) (acc : List UInt8), acc.length ≤ (extL i acc ws).length
  | [], _, _ => Nat.le_refl _
  | w :: ws, i, acc => by
    unfold extL
    refine Nat.le_trans ?_ (extL_len ws (i + 1) _)
    split <;> simp <;> omega
def wordsL (key : List (Int × List UInt8)) : Option (List (List UInt8)) := match key with
  | [] => some []
  | (k, t) :: r => match wordL k t with
    | none => none
    | some w => match wordsL r with
      | none => none
      | some ws => some (w :: ws)
theorem wordsL_len : ∀ {a : List (Int × List UInt8)} {ws : List (List UInt8)}, wordsL a = some ws → ws.length = a.length
  | [], ws, h => by simp [wordsL] at h; subst h; rfl
  | (k, t) :: a, ws, h => by
    simp only [wordsL] at h
    cases hw : wordL k t with
    | none => rw [hw] at h; cases h
    | some w =>
      rw [hw] at h
      simp only at h
      cases hr : wordsL a with
      | none => rw [hr] at h; cases h
      | some ws' => rw [hr] at h; cases h; simp [wordsL_len hr]
/-- what joined tokens come to: a text, and what is wrong -/
def joinS (key : List (Int × List UInt8)) : List UInt8 × Int := match wordsL key with
  | none => ([], 130)
  | some ws => if (extL 0 [] ws).length > 65536 then ([], 4) else if key.length + 1 > 4096 then ([], 7) else (extL 0 [] ws, 0)
end Go.GB

/- Plain laws: the program's quoting and joining. -/
set_option linter.unusedVariables false
set_option maxRecDepth 100000
namespace Go.GB
open Go.Lib
theorem hexdig : ∀ d : Fin 16, bx (⟨#[48, 49, 50, 51, 52, 53, 54, 55, 56, 57, 97, 98, 99, 100, 101, 102]⟩ : ByteArray) ((d.val : Nat) : Int) = some (((hxB d.val).toNat : Nat) : Int) := by decide +kernel
theorem hexdig' {d : Nat} (h : d < 16) : bx (⟨#[48, 49, 50, 51, 52, 53, 54, 55, 56, 57, 97, 98, 99, 100, 101, 102]⟩ : ByteArray) ((d : Nat) : Int) = some (((hxB d).toNat : Nat) : Int) := hexdig ⟨d, h⟩
theorem ix_bi {l : List UInt8} {i : Nat} (h : i < l.length) : ix (bi l) (i : Int) = some (((l[i]).toNat : Nat) : Int) := by
  rw [ix_nat]; unfold bi; rw [List.getElem?_map, List.getElem?_eq_getElem h]; rfl
theorem app_bi {a b : List UInt8} (h : a.length + b.length ≤ 2147483648) : app (bi a) (bi b) = some (bi (a ++ b)) := by
  rw [app_eq (by rw [bi_len, bi_len]; exact h), bi_app]
theorem tl_mk (l : List UInt8) : tl (⟨l.toArray⟩ : ByteArray) = l := by simp
theorem ofBytes_bi' (l : List UInt8) : ofBytes (bi l) = ⟨l.toArray⟩ := by
  apply ba_eq
  rw [ofBytes_toList]
  unfold bi
  rw [List.map_map]
  show _ = l
  conv => rhs; rw [← List.map_id l]
  refine List.map_congr_left fun c _ => ?_
  show UInt8.ofNat (((c.toNat : Nat) : Int)).toNat = c
  rw [Int.toNat_natCast, UInt8.ofNat_toNat]
/-- the way that a byte is quoted, as both of them have it -/
theorem quote_step {acc : List UInt8} {c : UInt8} {s1 s2 s3 : List Int} (h : acc.length + 4 ≤ 2147483648) (e1 : s1 = [92, 110]) (e2 : s2 = [92, 116]) (e3 : s3 = [92, 114]) :
    (Option.bind (bif ((((c.toNat : Nat) : Int) == 92) || (((c.toNat : Nat) : Int) == 34)) then (Option.bind (app (bi acc) [92, ((c.toNat : Nat) : Int)]) fun (zs71 : List Int) => some zs71)
      else (Option.bind (bif (((c.toNat : Nat) : Int) == 10) then (Option.bind (app (bi acc) s1) fun (zs87 : List Int) => some zs87)
        else (Option.bind (bif (((c.toNat : Nat) : Int) == 9) then (Option.bind (app (bi acc) s2) fun (zs103 : List Int) => some zs103)
          else (Option.bind (bif (((c.toNat : Nat) : Int) == 13) then (Option.bind (app (bi acc) s3) fun (zs119 : List Int) => some zs119)
            else (Option.bind (bif ((decide (((c.toNat : Nat) : Int) < 32)) || (((c.toNat : Nat) : Int) == 127)) then
                (Option.bind (bx (⟨#[48, 49, 50, 51, 52, 53, 54, 55, 56, 57, 97, 98, 99, 100, 101, 102]⟩ : ByteArray) (IntKind.wrap .u8 (Int.tdiv ((c.toNat : Nat) : Int) 16))) fun (c141 : Int) =>
                  Option.bind (bx (⟨#[48, 49, 50, 51, 52, 53, 54, 55, 56, 57, 97, 98, 99, 100, 101, 102]⟩ : ByteArray) (Int.tmod ((c.toNat : Nat) : Int) 16)) fun (c143 : Int) =>
                  Option.bind (app (bi acc) [92, 120, c141, c143]) fun (zs149 : List Int) => some zs149)
                else (Option.bind (app (bi acc) [((c.toNat : Nat) : Int)]) fun (zs159 : List Int) => some zs159)) fun (j131 : (List Int)) => some j131)) fun (j109 : (List Int)) => some j109)) fun (j93 : (List Int)) => some j93)) fun (j77 : (List Int)) => some j77)) fun (j57 : List Int) => some j57) = some (bi (acc ++ qB c)) := by
  subst e1 e2 e3
  have hc := c.toNat_lt
  have eqc : ∀ (c k : Nat), (((c : Nat) : Int) == (k : Int)) = decide (c = k) := fun c k => by rw [Bool.eq_iff_iff, beq_iff_eq, decide_eq_true_eq]; omega
  rw [show (((c.toNat : Nat) : Int) == 92) = decide (c.toNat = 92) from eqc _ 92, show (((c.toNat : Nat) : Int) == 34) = decide (c.toNat = 34) from eqc _ 34, show (((c.toNat : Nat) : Int) == 10) = decide (c.toNat = 10) from eqc _ 10, show (((c.toNat : Nat) : Int) == 9) = decide (c.toNat = 9) from eqc _ 9, show (((c.toNat : Nat) : Int) == 13) = decide (c.toNat = 13) from eqc _ 13, show (((c.toNat : Nat) : Int) == 127) = decide (c.toNat = 127) from eqc _ 127,
    show Int.tdiv ((c.toNat : Nat) : Int) 16 = ((c.toNat / 16 : Nat) : Int) from by rw [show (16 : Int) = ((16 : Nat) : Int) from rfl, Int.ofNat_tdiv], show Int.tmod ((c.toNat : Nat) : Int) 16 = ((c.toNat % 16 : Nat) : Int) from by rw [show (16 : Int) = ((16 : Nat) : Int) from rfl]; exact (Int.ofNat_tmod _ _).symm, wrapU8 (by omega) (by omega), hexdig' (by omega), hexdig' (by omega)]
  unfold qB
  by_cases c1 : c.toNat = 92 ∨ c.toNat = 34
  · rw [if_pos c1, show (decide (c.toNat = 92) || decide (c.toNat = 34)) = true from by rcases c1 with h | h <;> simp [h]]
    simp only [cond_true]
    rw [show ([92, ((c.toNat : Nat) : Int)] : List Int) = bi [92, c] from rfl, app_bi (by simp; omega)]; rfl
  rw [if_neg c1, show (decide (c.toNat = 92) || decide (c.toNat = 34)) = false from by rw [not_or] at c1; simp [c1.1, c1.2]]
  simp only [cond_false]
  by_cases c2 : c.toNat = 10
  · rw [if_pos c2, decide_eq_true c2]
    simp only [cond_true]
    rw [show ([92, 110] : List Int) = bi [92, 110] from rfl, app_bi (by simp; omega)]; rfl
  rw [if_neg c2, decide_eq_false c2]
  simp only [cond_false]
  by_cases c3 : c.toNat = 9
  · rw [if_pos c3, decide_eq_true c3]
    simp only [cond_true]
    rw [show ([92, 116] : List Int) = bi [92, 116] from rfl, app_bi (by simp; omega)]; rfl
  rw [if_neg c3, decide_eq_false c3]
  simp only [cond_false]
  by_cases c4 : c.toNat = 13
  · rw [if_pos c4, decide_eq_true c4]
    simp only [cond_true]
    rw [show ([92, 114] : List Int) = bi [92, 114] from rfl, app_bi (by simp; omega)]; rfl
  rw [if_neg c4, decide_eq_false c4]
  simp only [cond_false]
  by_cases c5 : c.toNat < 32 ∨ c.toNat = 127
  · rw [if_pos c5, show (decide (((c.toNat : Nat) : Int) < 32) || decide (c.toNat = 127)) = true from by
      rcases c5 with h | h
      · rw [decide_eq_true (show ((c.toNat : Nat) : Int) < 32 by omega)]; rfl
      · simp [h]]
    simp only [cond_true, Option.bind_some]
    rw [show ([92, 120, (((hxB (c.toNat / 16)).toNat : Nat) : Int), (((hxB (c.toNat % 16)).toNat : Nat) : Int)] : List Int) = bi [92, 120, hxB (c.toNat / 16), hxB (c.toNat % 16)] from rfl, app_bi (by simp; omega)]; rfl
  · rw [if_neg c5, show (decide (((c.toNat : Nat) : Int) < 32) || decide (c.toNat = 127)) = false from by
      rw [not_or] at c5
      rw [decide_eq_false (show ¬ (((c.toNat : Nat) : Int) < 32) by omega)]; simp [c5.2]]
    simp only [cond_false]
    rw [show ([((c.toNat : Nat) : Int)] : List Int) = bi [c] from rfl, app_bi (by simp; omega)]; rfl
end Go.GB
namespace Go.Proofs.YtlhpclfkoblnkaaDoor
open Go.GB Go.Lib
theorem quote_loop {l : List UInt8} (hl : l.length ≤ 268435456) : ∀ (d i : Nat) (acc : List UInt8), i + d = l.length → acc.length ≤ 4 * i + 1 → loopO (lex_Quote_l41 (bi l)) (bi acc, (i : Int)) = some (bi (acc ++ (l.drop i).flatMap qB))
  | 0, i, acc, hi, ha => by
    refine (loopO_done (r := bi acc) ?_).trans ?_
    · unfold lex_Quote_l41
      rw [decide_eq_false (by rw [bi_len]; show ¬ ((i : Int) < (l.length : Int)); omega)]; rfl
    · rw [List.drop_eq_nil_of_le (by omega)]; simp
  | d + 1, i, acc, hi, ha => by
    have hb : lex_Quote_l41 (bi l) (bi acc, (i : Int)) = some (.inl (bi (acc ++ qB (l[i]'(by omega))), ((i + 1 : Nat) : Int))) := by
      unfold lex_Quote_l41
      rw [decide_eq_true (by rw [bi_len]; show ((i : Int) < (l.length : Int)); omega), cond_true]
      simp only
      rw [ix_bi (show i < l.length by omega), Option.bind_some]
      have := quote_step (acc := acc) (c := l[i]'(by omega)) (s1 := bytesOf ⟨#[92, 110]⟩) (s2 := bytesOf ⟨#[92, 116]⟩) (s3 := bytesOf ⟨#[92, 114]⟩) (by omega) rfl rfl rfl
      obtain ⟨z, hz1, hz2⟩ := bind_some this
      refine bind_of hz1 ?_
      rw [wrapN (n := i + 1) (by omega) (by omega), some_inj hz2]
    rw [loopO_step hb, quote_loop hl d (i + 1) _ (by omega) (by have := qB_len (l[i]'(by omega)); simp; omega), List.drop_eq_getElem_cons (show i < l.length by omega), List.flatMap_cons, List.append_assoc]
theorem lex_Quote_eq {s : ByteArray} (hs : s.size ≤ 268435456) : lex_Quote s = some (if validD (tl s) = true then ((⟨(quoteL (tl s)).toArray⟩ : ByteArray), (0 : Int)) else (⟨#[]⟩, 12)) := by
  have hl := tl_len s
  unfold lex_Quote
  rw [valid_eq (by omega), Option.bind_some]
  show (bif !(validD (tl s)) then _ else _) = _
  cases hv : validD (tl s) with
  | false => rfl
  | true =>
    simp only [Bool.not_true, cond_false, if_true]
    rw [sb_eq (by omega), Option.bind_some, bi_bytes]
    have h := quote_loop (l := tl s) (by omega) s.size 0 [34] (by omega) (by simp)
    rw [List.drop_zero] at h
    refine bind_of (show loopO (lex_Quote_l41 (bi (tl s))) ([34], 0) = _ from h) ?_
    have hf := flat_len (tl s)
    refine bind_of (show app _ [34] = _ from app_bi (b := [34]) (by rw [List.length_append, List.length_singleton]; omega)) ?_
    rw [ofBytes_bi']; rfl
theorem lex_alone_eq {s : ByteArray} {k : Int} (hs : s.size < 536870912) : lex_alone s k = some (aloneL (tl s) k) := by
  have hl := tl_len s
  unfold lex_alone
  rw [nil_size]
  by_cases h0 : s.size = 0
  · rw [decide_eq_true h0, cond_true]
    have : tl s = [] := List.eq_nil_of_length_eq_zero (by omega)
    rw [this]; unfold aloneL; rw [oneL_nil]
  · rw [decide_eq_false h0, cond_false]
    obtain ⟨⟨tok, n⟩, h1, h2⟩ := lex_one_eq hs (by omega)
    rw [h1, Option.bind_some]
    unfold oneOk at h2
    unfold aloneL
    cases ho : oneL (tl s) with
    | none =>
      rw [ho] at h2
      simp only at h2 ⊢
      subst h2
      rw [show (((0 : Int)) == (s.size : Int)) = false from by rw [beq_eq_false_iff_ne]; omega]; rfl
    | some x =>
      obtain ⟨kd, t, m⟩ := x
      rw [ho] at h2
      simp only [Prod.mk.injEq] at h2 ⊢
      obtain ⟨rfl, rfl⟩ := h2
      rw [hl]
      congr 1
      rw [Bool.eq_iff_iff, Bool.and_eq_true, beq_iff_eq, beq_iff_eq, decide_eq_true_eq]
      constructor
      · rintro ⟨a, b⟩; exact ⟨by omega, b⟩
      · rintro ⟨a, b⟩; exact ⟨by omega, b⟩
def keyJ (x : S27) : Int × List UInt8 := (x.f0, tl x.f1)
theorem alone_kind {t : List UInt8} {k : Int} (h : aloneL t k = true) (h4 : k ≠ 4) : k = 1 ∨ k = 2 ∨ k = 3 ∨ k = 5 := by
  obtain ⟨kd, t', h1, h2⟩ := aloneL_true h
  have := oneL_kind h1
  omega
/-- one word, as the program finds it -/
theorem join_word {x : S27} (hs : x.f1.size ≤ 1048576) : (bif (x.f0 == 4) then
        (Option.bind (lex_Quote x.f1) fun (y104 : ByteArray × Int) =>
          bif (y104.2 != 0) then
          (some (Sum.inr (Sum.inr (Sum.inr (Sum.inr ((⟨#[]⟩ : ByteArray), 130))))))
          else
          (some (Sum.inl y104.1)))
        else
        (Option.bind (bif (x.f0 == 1) then
            (some (x.f0 == 1))
            else
            (Option.bind (bif (x.f0 == 2) then
                (some (x.f0 == 2))
                else
                (Option.bind (bif (x.f0 == 3) then
                    (some (x.f0 == 3))
                    else
                    (some (x.f0 == 5))) fun (j119 : Bool) =>
                  some j119)) fun (j113 : Bool) =>
              some j113)) fun (j107 : Bool) =>
          bif j107 then
          (Option.bind (lex_alone x.f1 x.f0) fun (y126 : Bool) =>
            bif (!y126) then
            (some (Sum.inr (Sum.inr (Sum.inr (Sum.inr ((⟨#[]⟩ : ByteArray), 130))))))
            else
            (some (Sum.inl x.f1)))
          else
          (some (Sum.inr (Sum.inr (Sum.inr (Sum.inr ((⟨#[]⟩ : ByteArray), 130))))))) : Option ((ByteArray) ⊕ ((Unit × (List Int)) ⊕ ((Unit × (List Int) × Int) ⊕ ((Unit × (List Int)) ⊕ (ByteArray × Int)))))) =
    some (match wordL x.f0 (tl x.f1) with | some w => Sum.inl ⟨w.toArray⟩ | none => Sum.inr (Sum.inr (Sum.inr (Sum.inr (⟨#[]⟩, 130))))) := by
  unfold wordL
  by_cases h4 : x.f0 = 4
  · rw [h4, show ((4 : Int) == 4) = true from rfl, cond_true, if_pos rfl, lex_Quote_eq (by omega), Option.bind_some]
    cases validD (tl x.f1) <;> rfl
  · rw [show (x.f0 == 4) = false from by rw [beq_eq_false_iff_ne]; exact h4, cond_false, if_neg h4]
    have hj : (bif (x.f0 == 1) then (some (x.f0 == 1)) else (Option.bind (bif (x.f0 == 2) then (some (x.f0 == 2)) else (Option.bind (bif (x.f0 == 3) then (some (x.f0 == 3)) else (some (x.f0 == 5))) fun (j119 : Bool) => some j119)) fun (j113 : Bool) => some j113)) = some (decide (x.f0 = 1 ∨ x.f0 = 2 ∨ x.f0 = 3 ∨ x.f0 = 5)) := by
      have e : ∀ k : Int, (x.f0 == k) = decide (x.f0 = k) := fun k => by rw [Bool.eq_iff_iff, beq_iff_eq, decide_eq_true_eq]
      rw [e, e, e, e]
      by_cases k1 : x.f0 = 1
      · simp [k1]
      by_cases k2 : x.f0 = 2
      · simp [k2]
      by_cases k3 : x.f0 = 3
      · simp [k3]
      · simp [k1, k2, k3]
    rw [hj, Option.bind_some]
    by_cases hk : x.f0 = 1 ∨ x.f0 = 2 ∨ x.f0 = 3 ∨ x.f0 = 5
    · rw [decide_eq_true hk, cond_true, lex_alone_eq (by omega), Option.bind_some]
      cases aloneL (tl x.f1) x.f0 <;> rfl
    · rw [decide_eq_false hk, cond_false, if_neg (fun h => hk (alone_kind h h4))]
theorem join_loop {L : List S27} (hL : ∀ x ∈ L, x.f1.size ≤ 1048576) (hLl : L.length ≤ 2147483648) : ∀ (d i : Nat) (acc : List UInt8), i + d = L.length → acc.length ≤ 16777216 →
    match wordsL ((L.drop i).map keyJ) with
    | none => loopO (lex_Join_l73 L) ((), bi acc, (i : Int)) = some (.inr (⟨#[]⟩, 130))
    | some ws => ∃ acc', loopO (lex_Join_l73 L) ((), bi acc, (i : Int)) = some (.inl ((), bi acc')) ∧ ((extL i acc ws).length ≤ 65536 → acc' = extL i acc ws) ∧ ((extL i acc ws).length > 65536 → acc'.length > 65536)
  | 0, i, acc, hi, ha => by
    rw [List.drop_eq_nil_of_le (by omega)]
    refine ⟨acc, loopO_done ?_, fun _ => rfl, fun h => h⟩
    unfold lex_Join_l73
    rw [decide_eq_false (by show ¬ ((i : Int) < (L.length : Int)); omega)]; rfl
  | d + 1, i, acc, hi, ha => by
    have hlt : i < L.length := by omega
    rw [List.drop_eq_getElem_cons hlt, List.map_cons]
    obtain ⟨x, hx⟩ : ∃ x, L[i] = x := ⟨_, rfl⟩
    have hxs : x.f1.size ≤ 1048576 := hL x (by rw [← hx]; exact List.getElem_mem hlt)
    rw [hx]
    show match (match wordL x.f0 (tl x.f1) with | none => none | some w => match wordsL ((L.drop (i + 1)).map keyJ) with | none => none | some ws => some (w :: ws)) with | none => _ | some ws => _
    have hw := join_word (x := x) hxs
    cases hwd : wordL x.f0 (tl x.f1) with
    | none =>
      rw [hwd] at hw
      refine loopO_done ?_
      unfold lex_Join_l73
      rw [decide_eq_true (by show ((i : Int) < (L.length : Int)); omega), cond_true]
      simp only [ix_nat, List.getElem?_eq_getElem hlt, Option.bind_some, hx]
      rw [hw]; rfl
    | some w =>
      rw [hwd] at hw
      have hwl := wordL_len hwd
      rw [tl_len] at hwl
      have hsz : (⟨w.toArray⟩ : ByteArray).size = w.length := by rw [← tl_len]
      have hb : lex_Join_l73 L ((), bi acc, (i : Int)) = some (.inl ((), bi (if acc.length > 65536 then acc else (if i > 0 then acc ++ [32] else acc) ++ w), ((i + 1 : Nat) : Int))) := by
        unfold lex_Join_l73
        rw [decide_eq_true (by show ((i : Int) < (L.length : Int)); omega), cond_true]
        simp only [ix_nat, List.getElem?_eq_getElem hlt, Option.bind_some, hx]
        rw [hw, Option.bind_some]
        simp only
        unfold strings_Builder_Len
        rw [bi_len]
        by_cases hg : acc.length > 65536
        · rw [decide_eq_true (by omega), cond_true, if_pos hg, Option.bind_some, wrapN (n := i + 1) (by omega) (by omega)]
        · rw [decide_eq_false (by omega), cond_false, if_neg hg]
          have hj : (bif decide (((i : Nat) : Int) > 0) then (Option.bind (strings_Builder_WriteByte (⟨bi acc⟩ : S50) 32) fun (y145 : Unit × S50) => some ((), y145.2.f1)) else some ((), bi acc)) = some ((), bi (if i > 0 then acc ++ [32] else acc)) := by
            by_cases hi0 : i > 0
            · rw [decide_eq_true (by omega), cond_true, if_pos hi0]
              unfold strings_Builder_WriteByte strings_Builder_copyCheck
              rw [show ([32] : List Int) = bi [32] from rfl, app_bi (by simp; omega)]; rfl
            · rw [decide_eq_false (by omega), cond_false, if_neg hi0]
          rw [hj, Option.bind_some]
          simp only
          unfold strings_Builder_WriteString strings_Builder_copyCheck
          have hal : (if i > 0 then acc ++ [32] else acc).length ≤ 65537 := by split <;> (try simp) <;> omega
          rw [bi_bytes, tl_mk, app_bi (by omega), Option.bind_some, Option.bind_some, Option.bind_some, wrapN (n := i + 1) (by omega) (by omega)]
      have hal : (if acc.length > 65536 then acc else (if i > 0 then acc ++ [32] else acc) ++ w).length ≤ 16777216 := by
        split
        · exact ha
        · rw [List.length_append]; split <;> (try simp) <;> omega
      have ih := join_loop hL hLl d (i + 1) _ (by omega) hal
      rw [loopO_step hb]
      cases hr : wordsL ((L.drop (i + 1)).map keyJ) with
      | none => rw [hr] at ih; exact ih
      | some ws =>
        rw [hr] at ih
        obtain ⟨acc', h1, h2, h3⟩ := ih
        refine ⟨acc', h1, ?_, ?_⟩
        · intro hle
          unfold extL at hle ⊢
          have : ¬ acc.length > 65536 := fun h => by
            have := extL_len ws (i + 1) ((if i > 0 then acc ++ [32] else acc) ++ w)
            have h5 : acc.length ≤ ((if i > 0 then acc ++ [32] else acc) ++ w).length := by split <;> (try simp) <;> omega
            omega
          rw [if_neg this] at h2
          exact h2 hle
        · intro hgt
          unfold extL at hgt
          by_cases hg : acc.length > 65536
          · rw [if_pos hg] at h3 h2
            rcases Nat.lt_or_ge 65536 (extL (i + 1) acc ws).length with h | h
            · exact h3 h
            · have := extL_len ws (i + 1) acc; omega
          · rw [if_neg hg] at h3
            exact h3 hgt
theorem lex_Join_core {L : List S27} (hL : ∀ x ∈ L, x.f1.size ≤ 1048576) (hLl : L.length ≤ 1048576) : (Option.bind (loopO (lex_Join_l73 L) ((), [], 0)) fun (r49 : (Unit × (List Int)) ⊕ (ByteArray × Int)) =>
  match r49 with
  | Sum.inl r63 => bif (decide ((strings_Builder_Len (⟨r63.2⟩ : S50)) > 65536)) then
    (some ((⟨#[]⟩ : ByteArray), 4))
    else
    (bif (decide ((IntKind.wrap .i64 ((L.length : Int) + 1)) > 4096)) then
      (some ((⟨#[]⟩ : ByteArray), 7))
      else
      (Option.bind (strings_Builder_String (⟨r63.2⟩ : S50)) fun (y174 : ByteArray) =>
        some (y174, 0)))
  | Sum.inr v179 => some v179) = some ((⟨(joinS (L.map keyJ)).1.toArray⟩ : ByteArray), (joinS (L.map keyJ)).2) := by
  have h := join_loop hL (by omega) L.length 0 [] (by omega) (by simp)
  rw [List.drop_zero] at h
  unfold joinS
  cases hw : wordsL (L.map keyJ) with
  | none =>
    rw [hw] at h
    rw [show loopO (lex_Join_l73 L) ((), [], 0) = _ from h]; rfl
  | some ws =>
    rw [hw] at h
    obtain ⟨acc', h1, h2, h3⟩ := h
    rw [show loopO (lex_Join_l73 L) ((), [], 0) = _ from h1, Option.bind_some]
    simp only
    unfold strings_Builder_Len
    rw [bi_len, List.length_map, wrapN (n := L.length + 1) (by omega) (by omega)]
    by_cases hg : (extL 0 [] ws).length > 65536
    · rw [if_pos hg, decide_eq_true (by have := h3 hg; omega), cond_true]
    · have e := h2 (by omega)
      subst e
      rw [if_neg hg, decide_eq_false (by omega), cond_false]
      by_cases hn : L.length + 1 > 4096
      · rw [if_pos hn, decide_eq_true (by omega), cond_true]
      · rw [if_neg hn, decide_eq_false (by omega), cond_false]
        refine bind_of (show strings_Builder_String _ = _ from strO_bi _) rfl
/-- the tokens without the end at their end -/
def cutEnd (L : List S27) : List S27 := match L.getLast? with
  | some x => if x.f0 = 0 ∧ tl x.f1 = [] then L.dropLast else L
  | none => L
theorem lex_Join_eq {L : List S27} (hL : ∀ x ∈ L, x.f1.size ≤ 1048576) (hLl : L.length ≤ 1048576) : lex_Join L = some ((⟨(joinS ((cutEnd L).map keyJ)).1.toArray⟩ : ByteArray), (joinS ((cutEnd L).map keyJ)).2) := by
  unfold lex_Join
  have hcut : ∀ x ∈ cutEnd L, x ∈ L := by
    intro x hx
    unfold cutEnd at hx
    split at hx
    · split at hx
      · exact (List.dropLast_sublist L).subset hx
      · exact hx
    · exact hx
  have hcl : (cutEnd L).length ≤ L.length := by
    unfold cutEnd; split
    · split
      · rw [List.length_dropLast]; omega
      · omega
    · omega
  refine Eq.trans ?_ (lex_Join_core (fun x hx => hL x (hcut x hx)) (by omega))
  by_cases h0 : L = []
  · subst h0; rfl
  have hpos := List.length_pos_iff.2 h0
  have hlast : L.getLast? = some (L[L.length - 1]'(by omega)) := by rw [List.getLast?_eq_getElem?, List.getElem?_eq_getElem (by omega)]
  rw [decide_eq_true (by omega), cond_true, wrapN (n := L.length - 1) (by omega) (by omega), ix_nat, List.getElem?_eq_getElem (show L.length - 1 < L.length by omega), Option.bind_some]
  obtain ⟨x, hx⟩ : ∃ x, L[L.length - 1]'(by omega) = x := ⟨_, rfl⟩
  rw [hx] at hlast ⊢
  have hj : (bif (x.f0 == 0) then (Option.bind (some x) fun (x16 : S27) => some (x16.f1.toList == (⟨#[]⟩ : ByteArray).toList)) else some false) = some (decide (x.f0 = 0 ∧ tl x.f1 = [])) := by
    rw [Option.bind_some, show (x.f0 == 0) = decide (x.f0 = 0) from by rw [Bool.eq_iff_iff, beq_iff_eq, decide_eq_true_eq], tl_inj, show tl (⟨#[]⟩ : ByteArray) = [] from rfl]
    obtain ⟨tt, htt⟩ : ∃ tt, tl x.f1 = tt := ⟨_, rfl⟩
    rw [htt]
    by_cases k1 : x.f0 = 0 <;> by_cases k2 : tt = [] <;> simp [k1, k2]
  rw [hj, Option.bind_some]
  by_cases hc : x.f0 = 0 ∧ tl x.f1 = []
  · have hce : cutEnd L = L.dropLast := by unfold cutEnd; rw [hlast]; simp only; rw [if_pos hc]
    rw [hce, decide_eq_true hc, cond_true]
    unfold lx
    rw [if_pos ⟨by omega, by omega, by omega⟩]
    simp only [Option.bind_some, Int.toNat_zero, List.drop_zero, Int.toNat_natCast]
    rw [← List.dropLast_eq_take]
    rfl
  · have hce : cutEnd L = L := by unfold cutEnd; rw [hlast]; simp only; rw [if_neg hc]
    rw [hce, decide_eq_false hc, cond_false, Option.bind_some]
    rfl
end Go.Proofs.YtlhpclfkoblnkaaDoor

/- Plain laws: LexPlaces. -/
set_option linter.unusedVariables false
set_option maxRecDepth 100000
namespace Go.GB
open Go.Lib
end Go.GB
namespace Go.Proofs.YtlhpclfkoblnkaaDoor
open Go.GB Go.Lib
def keyT (x : S27) : Int × List UInt8 := (x.f0, tl x.f1)
theorem same_true {a b : List S27} (h : a.map keyT = b.map keyT) (hl : a.length ≤ 2147483648) : lex_Same a b = some true := by
  have hlen : a.length = b.length := by have := congrArg List.length h; simpa using this
  unfold lex_Same
  rw [hlen, show (((b.length : Nat) : Int) != ((b.length : Nat) : Int)) = false from by simp, cond_false]
  refine bind_of (a := .inl ()) ?_ rfl
  have h := up_all (body := lex_Same_l18 a b) (n := a.length) (fun _ => true) (fun i hi => by
    have hk : (a.map keyT)[i]? = (b.map keyT)[i]? := by rw [h]
    rw [List.getElem?_map, List.getElem?_map, List.getElem?_eq_getElem hi, List.getElem?_eq_getElem (show i < b.length by omega)] at hk
    simp only [Option.map_some, Option.some.injEq, keyT, Prod.mk.injEq] at hk
    unfold lex_Same_l18
    rw [decide_eq_true (by omega), cond_true, ix_nat, ix_nat, List.getElem?_eq_getElem hi, List.getElem?_eq_getElem (show i < b.length by omega)]
    simp only [Option.bind_some]
    rw [hk.1, bne_self_eq_false, cond_false, tl_inj, hk.2, beq_self_eq_true]
    simp only [Bool.not_true, Option.bind_some, cond_false, cond_true]
    rw [wrap_up (by omega)]) (by
    unfold lex_Same_l18
    rw [decide_eq_false (by omega), cond_false])
  rw [h, if_pos (by simp)]
theorem tokR_ok {s : ByteArray} {r : List Tk3} (hs : s.size ≤ 65536) (h : toksL (tl s) 0 = .inl r) (hr : r.length + 1 ≤ 4096) : tokR s = (r.map tokOf ++ [endTok s], 0, 0) := by
  unfold tokR
  rw [if_neg (by omega), h]
  simp only
  rw [if_neg (by omega)]
end Go.Proofs.YtlhpclfkoblnkaaDoor

/- Plain laws: tokens that were joined are read as they were; over lists. -/
set_option linter.unusedVariables false
namespace Go.GB
open Go.Lib
theorem qB_high {c : UInt8} (h : 128 ≤ c.toNat) : qB c = [c] := by unfold qB; rw [if_neg (by omega), if_neg (by omega), if_neg (by omega), if_neg (by omega), if_neg (by omega)]
theorem hxB_lt : ∀ d : Fin 16, (hxB d.val).toNat < 128 ∧ hexN (hxB d.val).toNat = true ∧ hexV (hxB d.val).toNat = d.val ∧ (d.val < 8 → (hxB d.val).toNat ≤ 55) := by decide
theorem qB_low {c : UInt8} (h : c.toNat < 128) : ∀ b ∈ qB c, b.toNat < 128 := by
  intro b hb
  unfold qB at hb
  have h1 := (hxB_lt ⟨c.toNat / 16, by omega⟩).1
  have h2 := (hxB_lt ⟨c.toNat % 16, by omega⟩).1
  (repeat' split at hb) <;> simp only [List.mem_cons, List.not_mem_nil, or_false] at hb
  · rcases hb with rfl | rfl
    · decide
    · exact h
  · rcases hb with rfl | rfl <;> decide
  · rcases hb with rfl | rfl <;> decide
  · rcases hb with rfl | rfl <;> decide
  · rcases hb with rfl | rfl | rfl | rfl
    · decide
    · decide
    · exact h1
    · exact h2
  · rw [hb]; exact h
theorem flat_high : ∀ (w : Nat) (t : List UInt8), w ≤ t.length → (∀ i, i < w → 128 ≤ gB t i) → t.flatMap qB = t.take w ++ (t.drop w).flatMap qB
  | 0, t, _, _ => by simp
  | w + 1, [], h, _ => by simp at h
  | w + 1, c :: t, h, hh => by
    have h0 : 128 ≤ c.toNat := hh 0 (by omega)
    rw [List.flatMap_cons, qB_high h0, flat_high w t (by simpa using h) (fun i hi => hh (i + 1) (by omega))]
    simp
theorem validD_flat (t : List UInt8) (h : validD t = true) : validD (t.flatMap qB) = true := by
  induction hm : t.length using Nat.strongRecOn generalizing t with
  | _ m ih =>
    by_cases ht : t = []
    · subst ht; rfl
    have hp := List.length_pos_iff.2 ht
    by_cases h0 : gB t 0 < 128
    · obtain ⟨c, t', rfl⟩ := List.exists_cons_of_ne_nil ht
      have hc : c.toNat < 128 := h0
      rw [validD_cons c t' hc] at h
      rw [List.flatMap_cons, validD_ascii (qB c).length (qB c ++ t'.flatMap qB) (fun b hb => qB_low hc b (by rwa [List.take_left' rfl] at hb)), List.drop_left' rfl]
      exact ih _ (by simp only [List.length_cons] at hm; omega) t' h rfl
    · have hd := validD_step t ht
      rw [h] at hd
      by_cases hv : (decodeL t).1 = 65533 ∧ (decodeL t).2 = 1
      · rw [if_pos hv] at hd; cases hd
      · rw [if_neg hv] at hd
        have h1 : (decodeL t).2 ≠ 1 := fun e => hv ⟨decode_one (by omega) e, e⟩
        have hw := decodeL_width t
        have hle := decodeL_le t ht
        rw [flat_high _ t hle (fun i hi => Go.GB.decode_high hi h1), validD_rune hv ht]
        exact ih _ (by rw [List.length_drop]; omega) (t.drop (decodeL t).2) hd.symm rfl
theorem esc_back (c : UInt8) (h : c.toNat < 128) (r : List UInt8) : qB c = [c] ∧ c.toNat ≠ 34 ∧ c.toNat ≠ 92 ∧ c.toNat ≠ 10 ∨ ∃ k, 1 ≤ k ∧ (qB c).length = 1 + k ∧ gB (qB c ++ r) 0 = 92 ∧ escL ((qB c ++ r).drop 1) = some (c, k) := by
  have g : ∀ x y : List UInt8, gB (x ++ y) = gB (x ++ y) := fun _ _ => rfl
  unfold qB
  by_cases c1 : c.toNat = 92 ∨ c.toNat = 34
  · rw [if_pos c1]
    refine .inr ⟨1, by omega, rfl, rfl, ?_⟩
    show escL (c :: r) = _
    unfold escL
    have h0 : gB (c :: r) 0 = c.toNat := rfl
    rw [h0, if_neg (by omega), if_pos (by omega)]; rfl
  rw [if_neg c1]
  by_cases c2 : c.toNat = 10
  · rw [if_pos c2]
    refine .inr ⟨1, by omega, rfl, rfl, ?_⟩
    have : c = 10 := UInt8.toNat_inj.1 c2
    subst this; rfl
  rw [if_neg c2]
  by_cases c3 : c.toNat = 9
  · rw [if_pos c3]
    refine .inr ⟨1, by omega, rfl, rfl, ?_⟩
    have : c = 9 := UInt8.toNat_inj.1 c3
    subst this; rfl
  rw [if_neg c3]
  by_cases c4 : c.toNat = 13
  · rw [if_pos c4]
    refine .inr ⟨1, by omega, rfl, rfl, ?_⟩
    have : c = 13 := UInt8.toNat_inj.1 c4
    subst this; rfl
  rw [if_neg c4]
  by_cases c5 : c.toNat < 32 ∨ c.toNat = 127
  · rw [if_pos c5]
    refine .inr ⟨3, by omega, rfl, rfl, ?_⟩
    have a1 := hxB_lt ⟨c.toNat / 16, by omega⟩
    have a2 := hxB_lt ⟨c.toNat % 16, by omega⟩
    show escL (120 :: hxB (c.toNat / 16) :: hxB (c.toNat % 16) :: r) = _
    unfold escL
    rw [show gB (120 :: hxB (c.toNat / 16) :: hxB (c.toNat % 16) :: r) 0 = 120 from rfl, show gB (120 :: hxB (c.toNat / 16) :: hxB (c.toNat % 16) :: r) 1 = (hxB (c.toNat / 16)).toNat from rfl, show gB (120 :: hxB (c.toNat / 16) :: hxB (c.toNat % 16) :: r) 2 = (hxB (c.toNat % 16)).toNat from rfl]
    rw [if_neg (by omega), if_neg (by omega), if_neg (by omega), if_neg (by omega), if_pos ⟨rfl, a1.2.1, a2.2.1, a1.2.2.2 (by show c.toNat / 16 < 8; omega)⟩]
    have e1 : hexV (hxB (c.toNat / 16)).toNat = c.toNat / 16 := a1.2.2.1
    have e2 : hexV (hxB (c.toNat % 16)).toNat = c.toNat % 16 := a2.2.2.1
    rw [e1, e2]
    congr 2
    apply UInt8.toNat_inj.1
    rw [UInt8.toNat_ofNat']
    omega
  · rw [if_neg c5]; exact .inl ⟨rfl, by omega, by omega, by omega⟩
theorem textR_flat (r : List UInt8) : ∀ t : List UInt8, textR 34 (t.flatMap qB ++ 34 :: r) = some (t, (t.flatMap qB).length + 1)
  | [] => by
    rw [List.flatMap_nil, List.nil_append, textR, dif_neg (by simp), if_pos (show gB (34 :: r) 0 = 34 from rfl)]; rfl
  | c :: t => by
    have ih := textR_flat r t
    rw [List.flatMap_cons, List.append_assoc]
    have plain : qB c = [c] → c.toNat ≠ 34 → c.toNat ≠ 92 → c.toNat ≠ 10 → textR 34 (qB c ++ (t.flatMap qB ++ 34 :: r)) = some (c :: t, (qB c ++ t.flatMap qB).length + 1) := fun e h1 h2 h3 => by
      rw [e, textR, dif_neg (by simp)]
      have h0 : gB ([c] ++ (t.flatMap qB ++ 34 :: r)) 0 = c.toNat := rfl
      rw [h0, if_neg h1, if_neg h3, if_neg h2, show ([c] ++ (t.flatMap qB ++ 34 :: r)).drop 1 = t.flatMap qB ++ 34 :: r from rfl, ih]
      simp only [Option.map_some]
      rw [show ([c] ++ t.flatMap qB).length = (t.flatMap qB).length + 1 from by simp]; rfl
    by_cases hc : c.toNat < 128
    · rcases esc_back c hc (t.flatMap qB ++ 34 :: r) with ⟨e, h1, h2, h3⟩ | ⟨k, hk, hlen, h0, he⟩
      · exact plain e h1 h2 h3
      · rw [textR, dif_neg (by intro h; have := congrArg List.length h; rw [List.length_append, List.length_nil] at this; omega), h0, if_neg (by omega), if_neg (by omega), if_pos rfl, he]
        simp only
        rw [List.drop_left' hlen, ih]
        simp only [Option.map_some, List.length_append, hlen]
        congr 2; omega
    · exact plain (qB_high (by omega)) (by omega) (by omega) (by omega)
theorem gB_append {l r : List UInt8} {i : Nat} : gB (l ++ r) i = if i < l.length then gB l i else gB r (i - l.length) := by
  unfold gB
  rw [List.getD_eq_getElem?_getD, List.getElem?_append]
  split <;> rw [List.getD_eq_getElem?_getD]
/-- a word, and what stands behind it: nothing, or a blank -/
theorem oneL_word {k : Int} {t w r : List UInt8} (h : wordL k t = some w) (hr : r = [] ∨ gB r 0 = 32) : ∃ kd : Nat, (kd : Int) = k ∧ oneL (w ++ r) = some (kd, t, w.length) ∧ 1 ≤ kd := by
  unfold wordL at h
  by_cases h4 : k = 4
  · rw [if_pos h4] at h
    split at h
    · rename_i hv
      cases h
      refine ⟨4, by rw [h4]; rfl, ?_, by omega⟩
      have e : quoteL t ++ r = 34 :: (t.flatMap qB ++ 34 :: r) := by unfold quoteL; simp
      rw [e]
      unfold oneL
      have g0 : gB (34 :: (t.flatMap qB ++ 34 :: r)) 0 = 34 := rfl
      rw [g0, if_neg (by decide), if_neg (by decide), if_pos (.inl rfl), List.drop_succ_cons, List.drop_zero, (textP_some (by omega)).2 ⟨textR_flat r t, hv, by rw [Nat.add_sub_cancel, List.take_left' rfl]; exact validD_flat t hv⟩]
      simp only [Option.map_some]
      congr 3
      unfold quoteL; simp
    · cases h
  · rw [if_neg h4] at h
    split at h
    · rename_i ha
      cases h
      obtain ⟨kd, t', h1, h2⟩ := aloneL_true ha
      have hk := oneL_kind h1
      have hp := oneL_pos h1
      have ht : t' = t := by rw [hk.2.2.1 (by omega), List.take_length]
      subst ht
      refine ⟨kd, h2, ?_, hk.1⟩
      have hg : gB (t' ++ r) t'.length = 0 ∨ gB (t' ++ r) t'.length = 32 := by
        rw [gB_append, if_neg (by omega), Nat.sub_self]
        rcases hr with rfl | hr
        · exact .inl rfl
        · exact .inr hr
      refine oneL_agree h1 (by rw [List.take_left' rfl, List.take_length]) (by simp) ⟨fun _ => ?_, fun _ => ?_, fun h5 y hy hyl => ?_⟩
      · rcases hg with e | e <;> rw [e] <;> rfl
      · rcases hg with e | e <;> rw [e] <;> rfl
      · have hy2 : y.length ≤ 2 ∧ (y.length = 2 → gB y 1 = 61 ∨ gB y 1 = 126) := by
          have : ∀ y ∈ signsL, y.length ≤ 2 ∧ (y.length = 2 → gB y 1 = 61 ∨ gB y 1 = 126) := by decide
          exact this y hy
        rcases Nat.lt_or_ge t'.length y.length with hlt | hge
        · have hl2 : y.length = 2 := by omega
          have hl1 : t'.length = 1 := by omega
          have := gB_prefix hyl (i := 1) (by omega)
          have h61 := hy2.2 hl2
          rw [hl1] at hg
          omega
        · exact hge
    · cases h
theorem oneL_first {l t : List UInt8} {k n : Nat} (h : oneL l = some (k, t, n)) : blankN (gB l 0) = false ∧ gB l 0 ≠ 35 := by
  have key : letN (gB l 0) = true ∨ digN (gB l 0) = true ∨ gB l 0 = 46 ∨ gB l 0 = 34 ∨ gB l 0 = 39 ∨ ∃ x ∈ signsL, x <+: l := by
    unfold oneL at h
    by_cases c1 : letN (gB l 0) = true
    · exact .inl c1
    rw [if_neg c1] at h
    by_cases c2 : digN (gB l 0) = true ∨ gB l 0 = 46
    · rcases c2 with c2 | c2
      · exact .inr (.inl c2)
      · exact .inr (.inr (.inl c2))
    rw [if_neg c2] at h
    by_cases c3 : gB l 0 = 34 ∨ gB l 0 = 39
    · rcases c3 with c3 | c3
      · exact .inr (.inr (.inr (.inl c3)))
      · exact .inr (.inr (.inr (.inr (.inl c3))))
    rw [if_neg c3] at h
    obtain ⟨x, h1, h2⟩ := Option.map_eq_some_iff.1 h
    have h3 := signL_some h1
    exact .inr (.inr (.inr (.inr (.inr ⟨x, h3.1, h3.2.1⟩))))
  rcases key with h | h | h | h | h | ⟨x, hx, hxl⟩
  · unfold letN at h; unfold blankN; simp at h ⊢; omega
  · unfold digN at h; unfold blankN; simp at h ⊢; omega
  · rw [h]; decide
  · rw [h]; decide
  · rw [h]; decide
  · have h1 : ∀ x ∈ signsL, 0 < x.length ∧ blankN (gB x 0) = false ∧ gB x 0 ≠ 35 := by decide
    have h2 := h1 x hx
    rw [gB_prefix hxl h2.1]; exact h2.2
theorem skipL_zero {l t : List UInt8} {k n : Nat} (h : oneL l = some (k, t, n)) : skipL l = 0 := by
  have h1 := oneL_first h
  have h2 := oneL_pos h
  rw [skipL_rec (by intro e; subst e; simp at h2; omega), if_neg (by rw [h1.1]; simp), if_neg h1.2]
theorem toksL_skip' {l : List UInt8} {a k : Nat} (h : skipL l = k + skipL (l.drop k)) : toksL l a = toksL (l.drop k) (a + k) := by
  have hd : (l.drop k).drop (skipL (l.drop k)) = l.drop (skipL l) := by rw [List.drop_drop, ← h]
  by_cases he : l.drop (skipL l) = []
  · rw [toksL_end he, toksL_end (by rw [hd]; exact he)]
  · cases ho : oneL (l.drop (skipL l)) with
    | none => rw [toksL_bad he ho, toksL_bad (by rw [hd]; exact he) (by rw [hd]; exact ho), h]; congr 1; omega
    | some ktn =>
      obtain ⟨x, t, n⟩ := ktn
      have e1 := toksL_cons (a := a) he ho
      have e2 := toksL_cons (a := a + k) (l := l.drop k) (by rw [hd]; exact he) (by rw [hd]; exact ho)
      rw [e1, e2, List.drop_drop, h, show k + skipL (l.drop k) + n = k + (skipL (l.drop k) + n) from by omega, show a + (k + skipL (l.drop k)) + n = a + k + skipL (l.drop k) + n from by omega, show a + (k + skipL (l.drop k)) = a + k + skipL (l.drop k) from by omega]
/-- words with something between: each one with what stands behind it -/
def sepL : List (List UInt8 × List UInt8) → List UInt8
  | [] => []
  | (w, g) :: r => w ++ g ++ sepL r
def placeT : Nat → List (Int × List UInt8) → List (List UInt8 × List UInt8) → List Tk3
  | a, (k, t) :: ks, (w, g) :: ws => ⟨k.toNat, t, a⟩ :: placeT (a + w.length + g.length) ks ws
  | _, _, _ => []
/-- what may stand between words: it begins with a blank, and it is passed over -/
def GapOk (g : List UInt8) : Prop := gB g 0 = 32 ∧ ∀ r, skipL (g ++ r) = g.length + skipL r
theorem toksL_words : ∀ (ks : List (Int × List UInt8)) (ws : List (List UInt8 × List UInt8)) (a : Nat), wordsL ks = some (ws.map Prod.fst) → (∀ x ∈ ws, GapOk x.2 ∨ x.2 = []) → (∀ i, i + 1 < ws.length → ∀ x, ws[i]? = some x → GapOk x.2) → toksL (sepL ws) a = .inl (placeT a ks ws)
  | [], ws, a, h, _, _ => by
    have : ws = [] := by cases ws with
      | nil => rfl
      | cons x ws => simp [wordsL] at h
    subst this
    rw [toksL_end (by simp [sepL])]; rfl
  | (k, t) :: ks, ws, a, h, hg, hm => by
    simp only [wordsL] at h
    cases hw : wordL k t with
    | none => rw [hw] at h; cases h
    | some w =>
      rw [hw] at h
      simp only at h
      cases hr : wordsL ks with
      | none => rw [hr] at h; cases h
      | some wr =>
        rw [hr] at h
        simp only [Option.some.injEq] at h
        cases ws with
        | nil => cases h
        | cons x ws =>
          obtain ⟨w', g⟩ := x
          simp only [List.map_cons, List.cons.injEq] at h
          obtain ⟨rfl, rfl⟩ := h
          have hgap : (g ++ sepL ws = [] ∨ gB (g ++ sepL ws) 0 = 32) := by
            rcases hg (w, g) (by simp) with h1 | h1
            · right
              have : 0 < g.length := by have := gBn_in (l := g) (i := 0) (by rw [h1.1]; omega); exact this
              rw [gB_append, if_pos this]; exact h1.1
            · left
              simp only at h1
              cases ws with
              | nil => rw [h1]; rfl
              | cons y ws =>
                have := (hm 0 (by simp) (w, g) rfl).1
                simp only [h1] at this
                exact absurd this (by decide)
          obtain ⟨kd, hk1, hone, hk2⟩ := oneL_word hw hgap
          have hsk := skipL_zero hone
          have hp := oneL_pos hone
          have es : sepL ((w, g) :: ws) = w ++ (g ++ sepL ws) := by simp [sepL]
          rw [es]
          have hne : (w ++ (g ++ sepL ws)).drop (skipL (w ++ (g ++ sepL ws))) ≠ [] := by
            rw [hsk, List.drop_zero]
            intro e
            have := congrArg List.length e
            rw [List.length_nil] at this; omega
          rw [toksL_cons hne (by rw [hsk]; exact hone), hsk, Nat.zero_add, List.drop_left' rfl, Nat.add_zero]
          have hrest : toksL (g ++ sepL ws) (a + w.length) = toksL (sepL ws) (a + w.length + g.length) := by
            rcases hg (w, g) (by simp) with h1 | h1
            · have h2 := h1.2 (sepL ws)
              have := toksL_skip' (l := g ++ sepL ws) (a := a + w.length) (k := g.length) (by rw [h2, List.drop_left' rfl])
              rw [this, List.drop_left' rfl]
            · simp only at h1
              subst h1; simp
          rw [hrest, toksL_words ks ws _ hr (fun x hx => hg x (by simp [hx])) (fun i hi x hx => hm (i + 1) (by simp; omega) x (by simpa using hx))]
          simp only [placeT]
          rw [show k.toNat = kd from by omega]
end Go.GB

/- Plain laws: tokens that were read can be joined; durations as text; over lists. -/
set_option linter.unusedVariables false
namespace Go.GB
open Go.Lib
def pairsL : List (List UInt8) → List (List UInt8 × List UInt8)
  | [] => []
  | [w] => [(w, [])]
  | w :: w' :: ws => (w, [32]) :: pairsL (w' :: ws)
theorem pairsL_fst : ∀ ws, (pairsL ws).map Prod.fst = ws
  | [] => rfl
  | [w] => rfl
  | w :: w' :: ws => by simp only [pairsL, List.map_cons, pairsL_fst (w' :: ws)]
theorem extL_pairs : ∀ (ws : List (List UInt8)) (i : Nat) (acc : List UInt8), extL (i + 1) acc ws = acc ++ (match ws with | [] => [] | w :: r => 32 :: sepL (pairsL (w :: r)))
  | [], i, acc => by simp [extL]
  | [w], i, acc => by
    unfold extL
    rw [if_pos (by omega)]
    simp [extL, pairsL, sepL]
  | w :: w' :: ws, i, acc => by
    unfold extL
    rw [if_pos (by omega), extL_pairs (w' :: ws) (i + 1)]
    simp [pairsL, sepL]
theorem extL_zero (ws : List (List UInt8)) : extL 0 [] ws = sepL (pairsL ws) := by
  match ws with
  | [] => rfl
  | [w] => simp [extL, pairsL, sepL]
  | w :: w' :: ws =>
    unfold extL
    rw [if_neg (by omega), extL_pairs (w' :: ws) 0]
    simp [pairsL, sepL]
theorem gap_space : GapOk [32] := ⟨rfl, fun r => by
  rw [skipL_rec (by simp), if_pos (show blankN (gB ([32] ++ r) 0) = true from rfl)]; rfl⟩
theorem pairsL_gap : ∀ (ws : List (List UInt8)), (∀ x ∈ pairsL ws, GapOk x.2 ∨ x.2 = []) ∧ ∀ i, i + 1 < (pairsL ws).length → ∀ x, (pairsL ws)[i]? = some x → GapOk x.2
  | [] => ⟨fun x h => (by cases h), fun i h => (by simp [pairsL] at h)⟩
  | [w] => ⟨fun x h => (by simp [pairsL] at h; subst h; exact .inr rfl), fun i h => (by simp [pairsL] at h)⟩
  | w :: w' :: ws => by
    obtain ⟨h1, h2⟩ := pairsL_gap (w' :: ws)
    refine ⟨fun x h => ?_, fun i h x hx => ?_⟩
    · simp only [pairsL, List.mem_cons] at h
      rcases h with rfl | h
      · exact .inl gap_space
      · exact h1 x h
    · simp only [pairsL] at h hx
      cases i with
      | zero => simp at hx; subst hx; exact gap_space
      | succ i => exact h2 i (by simpa using h) x (by simpa using hx)
def key3 (t : Tk3) : Int × List UInt8 := ((t.kind : Int), t.text)
theorem wordL_pos {k : Int} {t w : List UInt8} (h : wordL k t = some w) : 1 ≤ k := by
  unfold wordL at h
  by_cases h4 : k = 4
  · omega
  · rw [if_neg h4] at h
    split at h
    · rename_i ha
      obtain ⟨kd, t', h1, h2⟩ := aloneL_true ha
      have := (oneL_kind h1).1
      omega
    · cases h
theorem placeT_keys : ∀ (ks : List (Int × List UInt8)) (ws : List (List UInt8 × List UInt8)) (a : Nat), wordsL ks = some (ws.map Prod.fst) → (placeT a ks ws).map key3 = ks
  | [], ws, a, h => by
    have : ws = [] := by cases ws with
      | nil => rfl
      | cons x ws => simp [wordsL] at h
    subst this; rfl
  | (k, t) :: ks, ws, a, h => by
    simp only [wordsL] at h
    cases hw : wordL k t with
    | none => rw [hw] at h; cases h
    | some w =>
      rw [hw] at h
      simp only at h
      cases hr : wordsL ks with
      | none => rw [hr] at h; cases h
      | some wr =>
        rw [hr] at h
        simp only [Option.some.injEq] at h
        cases ws with
        | nil => cases h
        | cons x ws =>
          obtain ⟨w', g⟩ := x
          simp only [List.map_cons, List.cons.injEq] at h
          obtain ⟨rfl, rfl⟩ := h
          have hk := wordL_pos hw
          simp only [placeT, List.map_cons, placeT_keys ks ws _ hr, key3]
          rw [show ((k.toNat : Nat) : Int) = k from by omega]
/-! ### durations as text -/
end Go.GB

/- Plain laws: LexBack. -/
set_option linter.unusedVariables false
set_option maxRecDepth 100000
namespace Go.Proofs.YtlhpclfkoblnkaaDoor
open Go.GB Go.Lib
theorem keyJ_tok (t : Tk3) : keyJ (tokOf t) = key3 t := by unfold keyJ tokOf key3; rw [tl_mk]
theorem key_toks (r : List Tk3) : (r.map tokOf).map keyJ = r.map key3 := by rw [List.map_map]; exact List.map_congr_left fun t _ => keyJ_tok t
theorem joinS_ok {ks : List (Int × List UInt8)} (h : (joinS ks).2 = 0) : ∃ ws, wordsL ks = some ws ∧ (joinS ks).1 = extL 0 [] ws ∧ (extL 0 [] ws).length ≤ 65536 ∧ ks.length + 1 ≤ 4096 := by
  unfold joinS at h ⊢
  cases hw : wordsL ks with
  | none => rw [hw] at h; exact absurd h (by show ¬ ((130 : Int) = 0); omega)
  | some ws =>
    rw [hw] at h
    simp only at h ⊢
    by_cases h1 : (extL 0 [] ws).length > 65536
    · rw [if_pos h1] at h; exact absurd h (by show ¬ ((4 : Int) = 0); omega)
    rw [if_neg h1] at h ⊢
    by_cases h2 : ks.length + 1 > 4096
    · rw [if_pos h2] at h; exact absurd h (by show ¬ ((7 : Int) = 0); omega)
    rw [if_neg h2]
    exact ⟨ws, rfl, rfl, by omega, by omega⟩
theorem wt_of' : ∀ {l : List S27} {n : Nat}, wSl wS27 l n → ∀ x ∈ l, x.f1.size ≤ n
  | [], n, _ => fun x h => by cases h
  | x :: r, n, ⟨a, b, hw, h, hab, _⟩ => by
    have h2 := wt_of' h
    obtain ⟨n0, n1, n2, hs, _, hw1, _⟩ := hw
    have hw2 : x.f1.size + 1 ≤ n1 := hw1
    intro y hy
    rcases List.mem_cons.1 hy with rfl | hy
    · omega
    · have := h2 y hy; omega
end Go.Proofs.YtlhpclfkoblnkaaDoor

/- Plain laws: blanks and remarks between tokens; over lists. -/
set_option linter.unusedVariables false
namespace Go.GB
open Go.Lib
def SkipOk (g : List UInt8) : Prop := ∀ r, skipL (g ++ r) = g.length + skipL r
theorem skip_blank {c : UInt8} (h : blankN c.toNat = true) (r : List UInt8) : skipL (c :: r) = 1 + skipL r := by
  rw [skipL_rec (by simp), if_pos (show blankN (gB (c :: r) 0) = true from h)]; rfl
theorem skip_remark (b r : List UInt8) (h : ∀ c ∈ b, lineN c.toNat = true) : skipL (35 :: (b ++ 10 :: r)) = 1 + b.length + (1 + skipL r) := by
  have hr : runL lineN (b ++ 10 :: r) = b.length := by
    refine runL_char (by simp) (fun i hi => ?_) ?_
    · rw [gB_append, if_pos hi]
      have : gB b i = (b[i]).toNat := by simp [gB, List.getD, List.getElem?_eq_getElem hi]
      rw [this]; exact h _ (List.getElem_mem hi)
    · rw [gB_append, if_neg (by omega), Nat.sub_self]; rfl
  rw [skipL_rec (by simp), show gB (35 :: (b ++ 10 :: r)) 0 = 35 from rfl, if_neg (by decide), if_pos rfl, List.drop_succ_cons, List.drop_zero, hr, Nat.add_comm 1 b.length, List.drop_succ_cons, List.drop_left' rfl, skip_blank (by decide)]
theorem SkipOk.app {a b : List UInt8} (ha : SkipOk a) (hb : SkipOk b) : SkipOk (a ++ b) := fun r => by
  rw [List.append_assoc, ha, hb, List.length_append]; omega
theorem SkipOk.nil : SkipOk [] := fun r => by simp
theorem SkipOk.one {c : UInt8} (h : blankN c.toNat = true) : SkipOk [c] := fun r => skip_blank h r
def moresL : List (List UInt8) := [[32], [10], [9, 13, 32], [32, 35, 32, 105, 116, 39, 115, 10], [35, 10]]
theorem mores_ok : ∀ m ∈ moresL, SkipOk m := by
  intro m hm
  simp only [moresL, List.mem_cons, List.not_mem_nil, or_false] at hm
  rcases hm with rfl | rfl | rfl | rfl | rfl
  · exact SkipOk.one (by decide)
  · exact SkipOk.one (by decide)
  · exact (SkipOk.one (c := 9) (by decide)).app ((SkipOk.one (c := 13) (by decide)).app (SkipOk.one (c := 32) (by decide)))
  · refine (SkipOk.one (c := 32) (by decide)).app (b := [35, 32, 105, 116, 39, 115, 10]) ?_
    intro r
    have := skip_remark [32, 105, 116, 39, 115] r (by decide)
    rw [show ([35, 32, 105, 116, 39, 115, 10] : List UInt8) ++ r = 35 :: ([32, 105, 116, 39, 115] ++ 10 :: r) from rfl, this]
    simp; omega
  · intro r
    have := skip_remark [] r (by simp)
    rw [show ([35, 10] : List UInt8) ++ r = 35 :: ([] ++ 10 :: r) from rfl, this]
    simp; omega
theorem mores_len : ∀ m ∈ moresL, m.length ≤ 8 := by decide
theorem sepL_app : ∀ (a b : List (List UInt8 × List UInt8)), sepL (a ++ b) = sepL a ++ sepL b
  | [], b => rfl
  | (w, g) :: a, b => by simp only [List.cons_append, sepL, sepL_app a b, List.append_assoc]
theorem placeT_len : ∀ (ks : List (Int × List UInt8)) (ws : List (List UInt8 × List UInt8)) (a : Nat), ks.length = ws.length → (placeT a ks ws).length = ws.length
  | [], [], a, _ => rfl
  | [], _ :: _, a, h => by simp at h
  | _ :: _, [], a, h => by simp at h
  | (k, t) :: ks, (w, g) :: ws, a, h => by simp only [placeT, List.length_cons, placeT_len ks ws _ (by simpa using h)]
theorem placeT_at : ∀ (ks : List (Int × List UInt8)) (ws : List (List UInt8 × List UInt8)) (a i : Nat) (t : Tk3), (placeT a ks ws)[i]? = some t → t.at_ = a + (sepL (ws.take i)).length
  | [], ws, a, i, t, h => by simp [placeT] at h
  | (k, x) :: ks, [], a, i, t, h => by simp [placeT] at h
  | (k, x) :: ks, (w, g) :: ws, a, 0, t, h => by simp [placeT] at h; subst h; simp [sepL]
  | (k, x) :: ks, (w, g) :: ws, a, i + 1, t, h => by
    simp only [placeT, List.getElem?_cons_succ] at h
    rw [placeT_at ks ws _ i t h]
    simp only [List.take_succ_cons, sepL, List.length_append]; omega
/-- words with more between them -/
def moreP : List (List UInt8 × List UInt8) → List (List UInt8) → List (List UInt8 × List UInt8)
  | (w, g) :: ws, m :: ms => (w, g ++ 32 :: m) :: moreP ws ms
  | _, _ => []
theorem moreP_fst : ∀ (ws : List (List UInt8 × List UInt8)) (ms : List (List UInt8)), ms.length = ws.length → (moreP ws ms).map Prod.fst = ws.map Prod.fst
  | [], [], _ => rfl
  | [], _ :: _, h => by simp at h
  | _ :: _, [], h => by simp at h
  | (w, g) :: ws, m :: ms, h => by simp only [moreP, List.map_cons, moreP_fst ws ms (by simpa using h)]
theorem moreP_ok : ∀ (ws : List (List UInt8 × List UInt8)) (ms : List (List UInt8)), (∀ x ∈ ws, GapOk x.2 ∨ x.2 = []) → (∀ m ∈ ms, m ∈ moresL) → ∀ x ∈ moreP ws ms, GapOk x.2
  | [], ms, _, _, x, h => by cases ms <;> cases h
  | _ :: _, [], _, _, x, h => by cases h
  | (w, g) :: ws, m :: ms, hw, hm, x, h => by
    simp only [moreP, List.mem_cons] at h
    rcases h with rfl | h
    · have hmo := mores_ok m (hm m (by simp))
      have h32 : SkipOk (32 :: m) := (SkipOk.one (c := 32) (by decide)).app hmo
      rcases hw (w, g) (by simp) with h1 | h1
      · refine ⟨?_, SkipOk.app h1.2 h32⟩
        show gB (g ++ 32 :: m) 0 = 32
        have : 0 < g.length := gBn_in (by rw [h1.1]; omega)
        rw [gB_append, if_pos this]; exact h1.1
      · simp only at h1
        subst h1
        exact ⟨rfl, h32⟩
    · exact moreP_ok ws ms (fun x hx => hw x (by simp [hx])) (fun m hm' => hm m (by simp [hm'])) x h
theorem toksL_more {ks : List (Int × List UInt8)} {ws : List (List UInt8 × List UInt8)} {ms : List (List UInt8)} (h : wordsL ks = some (ws.map Prod.fst)) (hw : ∀ x ∈ ws, GapOk x.2 ∨ x.2 = []) (hm : ∀ m ∈ ms, m ∈ moresL) (hl : ms.length = ws.length) : ∃ r, toksL (sepL (moreP ws ms)) 0 = .inl r ∧ r.map key3 = ks := by
  have h1 : wordsL ks = some ((moreP ws ms).map Prod.fst) := by rw [moreP_fst ws ms hl]; exact h
  have hg := moreP_ok ws ms hw hm
  exact ⟨placeT 0 ks (moreP ws ms), toksL_words ks _ 0 h1 (fun x hx => .inl (hg x hx)) (fun i hi x hx => hg x (List.mem_of_getElem? hx)), placeT_keys ks _ 0 h1⟩
theorem sepL_one {ws : List (List UInt8 × List UInt8)} {i : Nat} {w g : List UInt8} (h : ws[i]? = some (w, g)) : (sepL (ws.take (i + 1))).length = (sepL (ws.take i)).length + (w ++ g).length ∧ ((sepL ws).drop (sepL (ws.take i)).length).take (w ++ g).length = w ++ g := by
  have hlt := (List.getElem?_eq_some_iff.1 h).1
  have he := (List.getElem?_eq_some_iff.1 h).2
  refine ⟨?_, ?_⟩
  · rw [List.take_add_one, h, sepL_app]; simp [sepL]
  · have : sepL ws = sepL (ws.take i) ++ sepL (ws.drop i) := by rw [← sepL_app, List.take_append_drop]
    rw [this, List.drop_left' rfl, List.drop_eq_getElem_cons hlt, he]
    simp only [sepL]
    exact List.take_left' rfl
end Go.GB

set_option linter.unusedVariables false
set_option maxRecDepth 100000
namespace Go.Proofs.YtlhpclfkoblnkaaDoor
open Go.GB Go.Lib
abbrev moresB : List ByteArray := [(⟨#[32]⟩ : ByteArray), (⟨#[10]⟩ : ByteArray), (⟨#[9, 13, 32]⟩ : ByteArray), (⟨#[32, 35, 32, 105, 116, 39, 115, 10]⟩ : ByteArray), (⟨#[35, 10]⟩ : ByteArray)]
theorem mores_at {j : Nat} (h : j < 5) : ∃ m : ByteArray, ix moresB (j : Int) = some m ∧ tl m ∈ moresL := by
  rw [ix_nat]
  match j, h with
  | 0, _ => exact ⟨_, rfl, by decide⟩
  | 1, _ => exact ⟨_, rfl, by decide⟩
  | 2, _ => exact ⟨_, rfl, by decide⟩
  | 3, _ => exact ⟨_, rfl, by decide⟩
  | 4, _ => exact ⟨_, rfl, by decide⟩
theorem gap_pick (gaps : List Int) (i : Nat) : ∃ m : ByteArray, tl m ∈ moresL ∧ (∀ {α : Type} (f : ByteArray → Option α), (Option.bind (bif (decide ((i : Int) < (gaps.length : Int))) then
        (Option.bind (ix gaps (i : Int)) fun (x91 : Int) =>
          Option.bind (remx .i64 x91 (moresB.length : Int)) fun (q99 : Int) =>
          some q99)
        else
        (some 0)) fun (j85 : Int) =>
      Option.bind (bif (decide (j85 < 0)) then
        (some (IntKind.wrap .i64 (0 - j85)))
        else
        (some j85)) fun (j101 : Int) => Option.bind (ix moresB j101) f) = f m) := by
  have key : ∀ z : Int, -5 < z → z < 5 → ∃ m : ByteArray, tl m ∈ moresL ∧ ∀ {α : Type} (f : ByteArray → Option α), (Option.bind (bif (decide (z < 0)) then (some (IntKind.wrap .i64 (0 - z))) else (some z)) fun (j101 : Int) => Option.bind (ix moresB j101) f) = f m := by
    intro z h1 h2
    by_cases hz : z < 0
    · obtain ⟨m, hm, hm2⟩ := mores_at (j := (-z).toNat) (by omega)
      refine ⟨m, hm2, fun f => ?_⟩
      rw [decide_eq_true hz, cond_true, Option.bind_some, wrapN (n := (-z).toNat) (by omega) (by omega), hm, Option.bind_some]
    · obtain ⟨m, hm, hm2⟩ := mores_at (j := z.toNat) (by omega)
      refine ⟨m, hm2, fun f => ?_⟩
      rw [decide_eq_false hz, cond_false, Option.bind_some, show z = ((z.toNat : Nat) : Int) from by omega, hm, Option.bind_some]
  by_cases hi : i < gaps.length
  · have hb : ∀ x : Int, -5 < Int.tmod x 5 ∧ Int.tmod x 5 < 5 := fun x => by
      have h1 := Int.tmod_lt_of_pos x (show (0 : Int) < 5 by omega)
      have h2 := Int.lt_tmod_of_pos x (show (0 : Int) < 5 by omega)
      omega
    obtain ⟨m, hm, hf⟩ := key (Int.tmod gaps[i] 5) (hb _).1 (hb _).2
    refine ⟨m, hm, fun f => ?_⟩
    rw [decide_eq_true (by omega), cond_true, ix_nat, List.getElem?_eq_getElem hi, Option.bind_some]
    unfold remx
    rw [if_pos (by show ((5 : Nat) : Int) ≠ 0; omega), Option.bind_some, Option.bind_some]
    exact hf f
  · obtain ⟨m, hm, hf⟩ := key 0 (by omega) (by omega)
    refine ⟨m, hm, fun f => ?_⟩
    rw [decide_eq_false (by omega), cond_false, Option.bind_some]
    exact hf f
theorem blanks_loop {t : ByteArray} {gaps : List Int} {ks : List (Int × List UInt8)} {P : List (List UInt8 × List UInt8)} (hP : ks.length = P.length) (ht : tl t = sepL P) (hs : t.size ≤ 65536) (hn : P.length ≤ 4096) (e : Int) : ∀ (d i : Nat) (acc : List UInt8), i + d = P.length → acc.length ≤ (sepL (P.take i)).length + 9 * i →
    ∃ ms : List (List UInt8), ms.length = d ∧ (∀ m ∈ ms, m ∈ moresL) ∧ loopO (tocsinlaw13_LexBlanks_l48 gaps (t, e) ((placeT 0 ks P).map tokOf ++ [endTok t], 0, 0)) (bi acc, (i : Int)) = some (.inl (bi (acc ++ sepL (moreP (P.drop i) ms)))) := by
  have hpl := placeT_len ks P 0 hP
  have hlen : ((placeT 0 ks P).map tokOf ++ [endTok t]).length = P.length + 1 := by simp [hpl]
  have hl := tl_len t
  intro d
  induction d with
  | zero =>
    intro i acc hi ha
    refine ⟨[], rfl, (fun m h => by cases h), ?_⟩
    rw [List.drop_eq_nil_of_le (by omega)]
    refine (loopO_done (r := Sum.inl (bi acc)) ?_).trans (by simp [moreP, sepL])
    unfold tocsinlaw13_LexBlanks_l48
    simp only [hlen]
    rw [wrapN (n := i + 1) (by omega) (by omega), decide_eq_false (by omega), cond_false]
  | succ d ih =>
    intro i acc hi ha
    have hlt : i < P.length := by omega
    obtain ⟨⟨w, g⟩, hwg⟩ : ∃ x, P[i]? = some x := ⟨P[i], List.getElem?_eq_getElem hlt⟩
    have h1 := sepL_one hwg
    have hdrop : P.drop i = (w, g) :: P.drop (i + 1) := by
      rw [List.drop_eq_getElem_cons hlt]
      have := (List.getElem?_eq_some_iff.1 hwg).2
      rw [this]
    -- the places
    have hplace : ∀ j : Nat, j ≤ P.length → ∃ x : S27, ((placeT 0 ks P).map tokOf ++ [endTok t])[j]? = some x ∧ x.f2 = (((sepL (P.take j)).length : Nat) : Int) := by
      intro j hj
      rcases Nat.lt_or_ge j P.length with h | h
      · have hj' : j < (placeT 0 ks P).length := by omega
        refine ⟨tokOf (placeT 0 ks P)[j], ?_, ?_⟩
        · rw [List.getElem?_append_left (by simpa using hj'), List.getElem?_map, List.getElem?_eq_getElem hj']; rfl
        · have := placeT_at ks P 0 j _ (List.getElem?_eq_getElem hj')
          show (((placeT 0 ks P)[j].at_ : Nat) : Int) = _
          rw [this, Nat.zero_add]
      · have : j = P.length := by omega
        subst this
        refine ⟨endTok t, ?_, ?_⟩
        · rw [List.getElem?_append_right (by simp [hpl])]; simp [hpl]
        · show ((t.size : Nat) : Int) = _
          rw [List.take_length, ← ht, hl]
    obtain ⟨x, hx, hx2⟩ := hplace i (by omega)
    obtain ⟨y, hy, hy2⟩ := hplace (i + 1) (by omega)
    have htot : (sepL (P.take (i + 1))).length ≤ t.size := by
      have : (sepL P).length = (sepL (P.take (i + 1))).length + (sepL (P.drop (i + 1))).length := by rw [← List.length_append, ← sepL_app, List.take_append_drop]
      rw [ht] at hl; omega
    obtain ⟨m, hm, hf⟩ := gap_pick gaps i
    have hml := mores_len _ hm
    obtain ⟨a1, ha1⟩ : ∃ a1, (sepL (P.take i)).length = a1 := ⟨_, rfl⟩
    obtain ⟨a2, ha2⟩ : ∃ a2, (sepL (P.take (i + 1))).length = a2 := ⟨_, rfl⟩
    rw [ha1] at h1 hx2 ha
    rw [ha2] at h1 hy2 htot
    have hseg : t.extract a1 a2 = ⟨(w ++ g).toArray⟩ := by
      have := extract_ba2 (s := t) (a := a1) (n := (w ++ g).length)
      rw [ht, h1.2, ← h1.1] at this
      exact this
    have hb : tocsinlaw13_LexBlanks_l48 gaps (t, e) ((placeT 0 ks P).map tokOf ++ [endTok t], 0, 0) (bi acc, (i : Int)) = some (.inl (bi (acc ++ (w ++ (g ++ 32 :: tl m))), ((i + 1 : Nat) : Int))) := by
      unfold tocsinlaw13_LexBlanks_l48
      simp only [hlen]
      rw [wrapN (n := i + 1) (by omega) (by omega), decide_eq_true (by omega), cond_true, ix_nat, hx, Option.bind_some, ix_nat, hy, Option.bind_some, hx2, hy2]
      rw [decide_eq_false (show ¬ (((a1 : Nat) : Int) < 0) by omega), decide_eq_false (show ¬ (((a2 : Nat) : Int) < ((a1 : Nat) : Int)) by omega), decide_eq_false (show ¬ (((a2 : Nat) : Int) > ((t.size : Nat) : Int)) by omega)]
      rw [show ((false || false) || false) = false from rfl, cond_false, sx_tl (by omega) htot, Option.bind_some, hseg, bi_bytes, tl_mk, app_bi (by omega), Option.bind_some, show app (bi (acc ++ (w ++ g))) [32] = some (bi (acc ++ (w ++ g) ++ [32])) from app_bi (b := [32]) (by rw [List.length_append, List.length_singleton]; omega)]
      simp only [Option.bind_some]
      refine (hf _).trans ?_
      rw [bi_bytes, app_bi (by rw [List.length_append, List.length_append, List.length_singleton]; omega), Option.bind_some]
      simp [List.append_assoc]
    obtain ⟨ms, hm1, hm2, hm3⟩ := ih (i + 1) (acc ++ (w ++ (g ++ 32 :: tl m))) (by omega) (by rw [ha2, List.length_append, List.length_append, List.length_append, List.length_cons]; have := h1.1; rw [List.length_append] at this; omega)
    refine ⟨tl m :: ms, by simp [hm1], fun z hz => ?_, ?_⟩
    · rcases List.mem_cons.1 hz with rfl | hz
      · exact hm
      · exact hm2 z hz
    · rw [loopO_step hb, hm3, hdrop]
      simp [moreP, sepL, List.append_assoc]
theorem tocsinlaw13_LexBlanks_true {I : Imm} {c0 c1 : List Value} {n0 n1 : Nat} (a0 : List S27) (a1 : List Int) (h0 : (Kd.sl kS27).R I a0 c0) (h1 : (Kd.sl (Kd.int .i64)).R I a1 c1) (w0 : wSl wS27 a0 n0) (w1 : wSl (wInt .i64) a1 n1) (hn : n0 + n1 ≤ 1048576) : tocsinlaw13_LexBlanks a0 a1 = some true := by
  have hl0 := wSl.len w0
  have hsz := fun x hx => (wt_of' w0 x hx)
  unfold tocsinlaw13_LexBlanks
  rw [lex_Join_eq (fun x hx => by have := hsz x hx; omega) (by omega), Option.bind_some, known_true]
  by_cases hj : (joinS ((cutEnd a0).map keyJ)).2 = 0
  · obtain ⟨ws, hws, hj1, hj2, hj3⟩ := joinS_ok hj
    have hj4 : (joinS ((cutEnd a0).map keyJ)).1 = sepL (pairsL ws) := by rw [hj1, extL_zero]
    have hw1 : wordsL ((cutEnd a0).map keyJ) = some ((pairsL ws).map Prod.fst) := by rw [pairsL_fst]; exact hws
    have hgap := pairsL_gap ws
    have hlen : ((cutEnd a0).map keyJ).length = (pairsL ws).length := by
      have h2 := wordsL_len hws
      have h3 := congrArg List.length (pairsL_fst ws)
      rw [List.length_map] at h3; omega
    have htoks := toksL_words _ _ 0 hw1 hgap.1 hgap.2
    have hkeys := placeT_keys _ _ 0 hw1
    obtain ⟨t, ht⟩ : ∃ t : ByteArray, (⟨(joinS ((cutEnd a0).map keyJ)).1.toArray⟩ : ByteArray) = t := ⟨_, rfl⟩
    have htl : tl t = sepL (pairsL ws) := by rw [← ht, tl_mk, hj4]
    have hts : t.size ≤ 65536 := by rw [← tl_len, htl, ← extL_zero]; exact hj2
    have hpl := placeT_len _ _ 0 hlen
    have htok : lex_Tokens t = some ((placeT 0 ((cutEnd a0).map keyJ) (pairsL ws)).map tokOf ++ [endTok t], 0, 0) := by
      rw [lex_Tokens_eq, tokR_ok hts (by rw [htl]; exact htoks) (by omega)]
    rw [ht, hj]
    show (bif ((0 : Int) != 0) then _ else _) = _
    rw [show ((0 : Int) != 0) = false from rfl, cond_false]
    simp only [htok, Option.bind_some]
    rw [show ((0 : Int) != 0) = false from rfl, cond_false]
    obtain ⟨ms, hm1, hm2, hm3⟩ := blanks_loop (t := t) (gaps := a1) hlen htl hts (by omega) 0 (pairsL ws).length 0 [] (by omega) (by simp)
    rw [List.drop_zero, List.nil_append] at hm3
    refine bind_of (show loopO _ ([], 0) = _ from hm3) ?_
    simp only
    rw [bi_len]
    by_cases hg : (sepL (moreP (pairsL ws) ms)).length > 65536
    · rw [decide_eq_true (by omega), cond_true]
    · rw [decide_eq_false (by omega), cond_false, ofBytes_bi']
      obtain ⟨r, hr1, hr2⟩ := toksL_more hw1 hgap.1 hm2 hm1
      have hrl : r.length = (pairsL ws).length := by have := congrArg List.length hr2; rw [List.length_map] at this; omega
      rw [lex_Tokens_eq, tokR_ok (r := r) (by rw [← tl_len, tl_mk]; omega) (by rw [tl_mk]; exact hr1) (by omega), Option.bind_some]
      have hsame := same_true (a := r.map tokOf ++ [endTok (⟨(sepL (moreP (pairsL ws) ms)).toArray⟩ : ByteArray)]) (b := (placeT 0 ((cutEnd a0).map keyJ) (pairsL ws)).map tokOf ++ [endTok t]) (by
        rw [List.map_append, List.map_append]
        have : (r.map tokOf).map keyT = ((placeT 0 ((cutEnd a0).map keyJ) (pairsL ws)).map tokOf).map keyT := by
          show (r.map tokOf).map keyJ = ((placeT 0 ((cutEnd a0).map keyJ) (pairsL ws)).map tokOf).map keyJ
          rw [key_toks, key_toks, hr2, hkeys]
        rw [this]; rfl) (by simp; omega)
      show Option.bind (bif ((0 : Int) == 0) then _ else _) _ = _
      rw [show ((0 : Int) == 0) = true from rfl, cond_true, hsame]; rfl
  · show (bif ((joinS ((cutEnd a0).map keyJ)).2 != 0) then _ else _) = _
    rw [show ((joinS ((cutEnd a0).map keyJ)).2 != 0) = true from by rw [bne_iff_ne]; exact hj]; rfl
end Go.Proofs.YtlhpclfkoblnkaaDoor
