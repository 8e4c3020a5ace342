/- Plain laws: the program's texts in quotes, tokens. -/
import Derived.Test.YtlhpclfkoblnkaaDoorLX5p
import Derived.Test.YtlhpclfkoblnkaaDoorPA3
set_option linter.unusedVariables false
set_option maxRecDepth 100000
namespace Go.GB
open Go.Lib
def bi (a : List UInt8) : List Int := a.map fun c => ((c.toNat : Nat) : Int)
theorem bi_app (a b : List UInt8) : bi (a ++ b) = bi a ++ bi b := by unfold bi; rw [List.map_append]
theorem bi_len (a : List UInt8) : (bi a).length = a.length := by unfold bi; rw [List.length_map]
theorem bi_bytes (s : ByteArray) : bytesOf s = bi (tl s) := rfl
theorem strO_bi (a : List UInt8) : strO (bi a) = some ⟨a.toArray⟩ := by
  unfold strO
  rw [if_pos (by
    intro x hx
    unfold bi at hx
    obtain ⟨c, _, rfl⟩ := List.mem_map.1 hx
    have := c.toNat_lt
    omega)]
  congr 2
  unfold bi
  rw [List.map_map]
  congr 1
  conv => rhs; rw [← List.map_id a]
  refine List.map_congr_left fun c _ => ?_
  show UInt8.ofNat (((c.toNat : Nat) : Int)).toNat = c
  rw [Int.toNat_natCast, UInt8.ofNat_toNat]
theorem or192 : ∀ x : Fin 32, bitOr .u8 192 ((x.val : Nat) : Int) = ((192 + x.val : Nat) : Int) := by decide +kernel
theorem or224 : ∀ x : Fin 16, bitOr .u8 224 ((x.val : Nat) : Int) = ((224 + x.val : Nat) : Int) := by decide +kernel
theorem or240 : ∀ x : Fin 8, bitOr .u8 240 ((x.val : Nat) : Int) = ((240 + x.val : Nat) : Int) := by decide +kernel
theorem or128x : ∀ x : Fin 64, bitOr .u8 128 ((x.val : Nat) : Int) = ((128 + x.val : Nat) : Int) := by decide +kernel
theorem wrapU32 {x : Int} (h : 0 ≤ x) (h' : x < 4294967296) : IntKind.wrap .u32 x = x := by
  unfold IntKind.wrap
  simp [IntKind.bits, IntKind.signed]
  omega
theorem wrapI32 {x : Int} (h : -2147483648 ≤ x) (h' : x < 2147483648) : IntKind.wrap .i32 x = x := by
  unfold IntKind.wrap
  simp [IntKind.bits, IntKind.signed]
  omega
theorem cont_byte (c : Nat) : bitOr .u8 128 (bitAnd .u8 (IntKind.wrap .u8 ((c : Nat) : Int)) 63) = ((128 + c % 64 : Nat) : Int) := by
  rw [wrapU8_eq, show ((c : Nat) : Int) % 256 = ((c % 256 : Nat) : Int) from by omega]
  have h1 := and63 ⟨c % 256, by omega⟩
  have h2 := or128x ⟨c % 256 % 64, by omega⟩
  simp only at h1 h2
  rw [h1, h2]
  congr 1; omega
theorem runL_high {p : Nat → Bool} : ∀ (w : Nat) (l : List UInt8), w ≤ l.length → (∀ i, i < w → p (gB l i) = true) → runL p l = w + runL p (l.drop w)
  | 0, l, _, _ => by simp
  | w + 1, l, hl, h => by
    rw [show runL p l = runL p (l.drop 0) from rfl, runL_step (by omega), if_pos (h 0 (by omega)), Nat.zero_add]
    have := runL_high w (l.drop 1) (by rw [List.length_drop]; omega) (fun i hi => by rw [gB_drop]; exact h _ (by omega))
    rw [this, List.drop_drop, Nat.add_comm 1 w]; omega
theorem decodeGo_tl (s : ByteArray) (h : 0 < s.size) : decodeGo s = decodeL (tl s) := by
  unfold decodeGo decodeL
  rw [if_neg (by omega)]
end Go.GB
namespace Go.Proofs.YtlhpclfkoblnkaaDoor
open Go.GB Go.Lib
theorem appendRune_eq {l a : List UInt8} (hl : l ≠ []) (hv : ¬ ((decodeL l).1 = 65533 ∧ (decodeL l).2 = 1)) (hb : a.length + 4 ≤ 2147483648) :
    utf8_AppendRune_f71 (bi a) (((decodeL l).1 : Nat) : Int) = some (bi (a ++ l.take (decodeL l).2)) := by
  have hle := decodeL_le l hl
  have k0 := (l.getD 0 0).toNat_lt
  have k1 := (l.getD 1 0).toNat_lt
  have k2 := (l.getD 2 0).toNat_lt
  have k3 := (l.getD 3 0).toNat_lt
  have shr' : ∀ (c n : Nat), n ≤ 32 → shr .i32 (c : Int) (n : Int) = ((c / 2 ^ n : Nat) : Int) := fun c n h => shr_nat .i32 c n h
  unfold utf8_AppendRune_f71 utf8_appendRuneNonASCII_f79
  rw [decodeL_N] at hv hle ⊢
  rcases decodeN_shape l.length (l.getD 0 0).toNat (l.getD 1 0).toNat (l.getD 2 0).toNat (l.getD 3 0).toNat with ⟨c, e⟩ | ⟨c1, c2, c3, cv, e⟩ | ⟨c1, c2, c3, c4, cv, cs, e⟩ | ⟨c1, c2, c3, c4, c5, cv, cw, e⟩ | e
  · rw [e] at hle ⊢
    simp only
    rw [wrapU32 (by omega) (by omega), decide_eq_true (by omega), cond_true, app_eq (by rw [bi_len]; simp; omega), Option.bind_some, wrapU8 (by omega) (by omega), bi_app]
    rw [takeA l (List.length_pos_iff.2 hl)]; rfl
  · rw [e] at hle ⊢
    simp only
    generalize hC : (l.getD 0 0).toNat % 32 * 64 + (l.getD 1 0).toNat % 64 = C at *
    rw [wrapU32 (by omega) (by omega), decide_eq_false (by omega), cond_false, decide_eq_true (by omega), cond_true, show shr .i32 (C : Int) 6 = ((C / 64 : Nat) : Int) from shr' C 6 (by omega), wrapU8 (by omega) (by omega), cont_byte]
    have h1 := or192 ⟨C / 64, by omega⟩
    simp only at h1
    rw [h1, app_eq (by rw [bi_len]; simp; omega), Option.bind_some, Option.bind_some, bi_app, takeB l c2]
    unfold bi
    simp only [List.map_cons, List.map_nil]
    rw [show 192 + C / 64 = (l.getD 0 0).toNat from by omega, show 128 + C % 64 = (l.getD 1 0).toNat from by omega]
  · rw [e] at hle ⊢
    simp only
    generalize hC : (l.getD 0 0).toNat % 16 * 4096 + (l.getD 1 0).toNat % 64 * 64 + (l.getD 2 0).toNat % 64 = C at *
    rw [wrapU32 (by omega) (by omega), decide_eq_false (show ¬ ((C : Int) ≤ 127) by omega), cond_false, decide_eq_false (show ¬ ((C : Int) ≤ 2047) by omega), cond_false]
    have hj : (bif decide ((C : Int) < 55296) then some (decide ((C : Int) < 55296)) else some (decide ((57343 : Int) < (C : Int)) && decide ((C : Int) ≤ 65535))) = some true := by
      by_cases h5 : C < 55296
      · rw [decide_eq_true (show (C : Int) < 55296 by omega)]; rfl
      · rw [decide_eq_false (show ¬ ((C : Int) < 55296) by omega), decide_eq_true (show (57343 : Int) < (C : Int) by omega), decide_eq_true (show (C : Int) ≤ 65535 by omega)]; rfl
    rw [hj, Option.bind_some, cond_true, show shr .i32 (C : Int) 12 = ((C / 4096 : Nat) : Int) from shr' C 12 (by omega), show shr .i32 (C : Int) 6 = ((C / 64 : Nat) : Int) from shr' C 6 (by omega), wrapU8 (x := ((C / 4096 : Nat) : Int)) (by omega) (by omega), cont_byte, cont_byte]
    have h1 := or224 ⟨C / 4096, by omega⟩
    simp only at h1
    rw [h1, app_eq (by rw [bi_len]; simp; omega), Option.bind_some, Option.bind_some, bi_app, takeC l c2]
    unfold bi
    simp only [List.map_cons, List.map_nil]
    rw [show 224 + C / 4096 = (l.getD 0 0).toNat from by omega, show 128 + C / 64 % 64 = (l.getD 1 0).toNat from by omega, show 128 + C % 64 = (l.getD 2 0).toNat from by omega]
  · rw [e] at hle ⊢
    simp only
    generalize hC : (l.getD 0 0).toNat % 8 * 262144 + (l.getD 1 0).toNat % 64 * 4096 + (l.getD 2 0).toNat % 64 * 64 + (l.getD 3 0).toNat % 64 = C at *
    rw [wrapU32 (by omega) (by omega), decide_eq_false (show ¬ ((C : Int) ≤ 127) by omega), cond_false, decide_eq_false (show ¬ ((C : Int) ≤ 2047) by omega), cond_false]
    have hj : (bif decide ((C : Int) < 55296) then some (decide ((C : Int) < 55296)) else some (decide ((57343 : Int) < (C : Int)) && decide ((C : Int) ≤ 65535))) = some false := by
      rw [decide_eq_false (show ¬ ((C : Int) < 55296) by omega), decide_eq_true (show (57343 : Int) < (C : Int) by omega), decide_eq_false (show ¬ ((C : Int) ≤ 65535) by omega)]; rfl
    rw [hj, Option.bind_some, cond_false, decide_eq_true (show (C : Int) > 65535 by omega), decide_eq_true (show (C : Int) ≤ 1114111 by omega)]
    rw [show (true && true) = true from rfl, cond_true, show shr .i32 (C : Int) 18 = ((C / 262144 : Nat) : Int) from shr' C 18 (by omega), show shr .i32 (C : Int) 12 = ((C / 4096 : Nat) : Int) from shr' C 12 (by omega), show shr .i32 (C : Int) 6 = ((C / 64 : Nat) : Int) from shr' C 6 (by omega), wrapU8 (x := ((C / 262144 : Nat) : Int)) (by omega) (by omega), cont_byte, cont_byte, cont_byte]
    have h1 := or240 ⟨C / 262144, by omega⟩
    simp only at h1
    rw [h1, app_eq (by rw [bi_len]; simp; omega), Option.bind_some, Option.bind_some, bi_app, takeD l c2]
    unfold bi
    simp only [List.map_cons, List.map_nil]
    rw [show 240 + C / 262144 = (l.getD 0 0).toNat from by omega, show 128 + C / 4096 % 64 = (l.getD 1 0).toNat from by omega, show 128 + C / 64 % 64 = (l.getD 2 0).toNat from by omega, show 128 + C % 64 = (l.getD 3 0).toNat from by omega]
  · rw [e] at hv; exact absurd ⟨rfl, rfl⟩ hv
def qfin : (Unit) ⊕ (ByteArray × Int) → ByteArray × Int | .inl _ => (⟨#[]⟩, 0) | .inr v => v
theorem quoted_loop {s : ByteArray} {q : Nat} (hq : q < 128) (hs : s.size < 1073741824) : ∀ (m at_ : Nat) (a : List UInt8), s.size - at_ = m → at_ ≤ s.size → a.length ≤ at_ →
    (loopO (lex_quoted_l32 s (q : Int)) ((), bi a, (at_ : Int))).map qfin = some (match textP q ((tl s).drop at_) with | some (o, n) => (⟨(a ++ o).toArray⟩, ((at_ + n : Nat) : Int)) | none => (⟨#[]⟩, 0)) := by
  intro m
  induction m using Nat.strongRecOn with
  | _ m ih =>
    intro at_ a hm hle hal
    have hl := tl_len s
    by_cases hlt : at_ < s.size
    · have hne : (tl s).drop at_ ≠ [] := by intro h; have := congrArg List.length h; rw [List.length_drop, List.length_nil] at this; omega
      have hw := decodeL_width ((tl s).drop at_)
      have hwl := decodeL_le _ hne
      rw [List.length_drop] at hwl
      have hsx : sx s (at_ : Int) (s.size : Int) = some (s.extract at_ s.size) := sx_tl (by omega) (Nat.le_refl _)
      have htl : tl (s.extract at_ s.size) = (tl s).drop at_ := by rw [tl_extract, List.take_of_length_le (by rw [List.length_drop]; omega)]
      have hdec : utf8_DecodeRuneInString (s.extract at_ s.size) = some ((((decodeL ((tl s).drop at_)).1 : Nat) : Int), (((decodeL ((tl s).drop at_)).2 : Nat) : Int)) := by
        unfold utf8_DecodeRuneInString
        rw [decodeGo_tl _ (by rw [← tl_len, htl, List.length_drop]; omega), htl]
      have hrd := decodeL_rune ((tl s).drop at_)
      rw [textP, dif_neg hne]
      have e1 : ∀ c k : Nat, (((c : Nat) : Int) == (k : Int)) = decide (c = k) := fun c k => by rw [Bool.eq_iff_iff, beq_iff_eq, decide_eq_true_eq]; omega
      -- the body
      have hbody : lex_quoted_l32 s (q : Int) ((), bi a, (at_ : Int)) =
          if (decodeL ((tl s).drop at_)).1 = q then some (.inr (.inr (⟨a.toArray⟩, ((at_ + 1 : Nat) : Int))))
          else if ((decodeL ((tl s).drop at_)).1 = 65533 ∧ (decodeL ((tl s).drop at_)).2 = 1) ∨ (decodeL ((tl s).drop at_)).1 = 10 then some (.inr (.inr (⟨#[]⟩, 0)))
          else if (decodeL ((tl s).drop at_)).1 = 92 then (match escL ((tl s).drop (at_ + 1)) with
            | none => some (.inr (.inr (⟨#[]⟩, 0)))
            | some (x, k) => some (.inl ((), bi (a ++ [x]), ((at_ + (1 + k) : Nat) : Int))))
          else some (.inl ((), bi (a ++ ((tl s).drop at_).take (decodeL ((tl s).drop at_)).2), ((at_ + (decodeL ((tl s).drop at_)).2 : Nat) : Int))) := by
        unfold lex_quoted_l32
        rw [show decide ((((), bi a, (at_ : Int)) : Unit × List Int × Int).2.2 < (s.size : Int)) = true from decide_eq_true (by show (at_ : Int) < (s.size : Int); omega), cond_true]
        refine bind_of hsx ?_
        refine bind_of hdec ?_
        generalize hD : decodeL ((tl s).drop at_) = D at *
        obtain ⟨d1, d2⟩ := D
        simp only at hrd hw hwl ⊢
        rw [wrapI32 (by omega) (by omega), e1]
        by_cases h1 : d1 = q
        · rw [decide_eq_true h1, cond_true, if_pos h1]
          refine bind_of (show strings_Builder_String _ = some _ from strO_bi a) ?_
          rw [wrapN (n := at_ + 1) (by omega) (by omega)]
        rw [decide_eq_false h1, cond_false, if_neg h1]
        have hj : (bif ((((d1 : Nat) : Int) == 65533) && (((d2 : Nat) : Int) == 1)) then some ((((d1 : Nat) : Int) == 65533) && (((d2 : Nat) : Int) == 1)) else some (((d1 : Nat) : Int) == 10)) = some (decide ((d1 = 65533 ∧ d2 = 1) ∨ d1 = 10)) := by
          rw [show (((d1 : Nat) : Int) == 65533) = decide (d1 = 65533) from e1 d1 65533, show (((d2 : Nat) : Int) == 1) = decide (d2 = 1) from e1 d2 1, show (((d1 : Nat) : Int) == 10) = decide (d1 = 10) from e1 d1 10]
          by_cases k1 : d1 = 65533 <;> by_cases k2 : d2 = 1 <;> by_cases k3 : d1 = 10 <;> simp [k1, k2, k3]
        refine bind_of hj ?_
        by_cases h2 : (d1 = 65533 ∧ d2 = 1) ∨ d1 = 10
        · rw [decide_eq_true h2, cond_true, if_pos h2]
        rw [decide_eq_false h2, cond_false, if_neg h2]
        rw [show (((d1 : Nat) : Int) == 92) = decide (d1 = 92) from e1 d1 92]
        by_cases h3 : d1 = 92
        · rw [decide_eq_true h3, cond_true, if_pos h3, wrapN (z := (at_ : Int) + 1) (n := at_ + 1) (by omega) (by omega)]
          have hsx2 : sx s ((at_ + 1 : Nat) : Int) (s.size : Int) = some (s.extract (at_ + 1) s.size) := sx_tl (by omega) (Nat.le_refl _)
          have htl2 : tl (s.extract (at_ + 1) s.size) = (tl s).drop (at_ + 1) := by rw [tl_extract, List.take_of_length_le (by rw [List.length_drop]; omega)]
          have hsz2 : (s.extract (at_ + 1) s.size).size < 4294967296 := by rw [← tl_len, htl2, List.length_drop]; omega
          have hesc := lex_escape_eq hsz2
          rw [htl2] at hesc
          rw [hsx2, Option.bind_some, hesc, Option.bind_some]
          cases hk : escL ((tl s).drop (at_ + 1)) with
          | none => rfl
          | some xk =>
            obtain ⟨x, k⟩ := xk
            have hkl := escL_low hk
            rw [List.length_drop] at hkl
            simp only
            rw [show (((k : Nat) : Int) == 0) = decide (k = 0) from e1 k 0, decide_eq_false (by omega), cond_false]
            have hwb : strings_Builder_WriteByte (⟨bi a⟩ : S50) ((x.toNat : Nat) : Int) = some ((), ⟨bi (a ++ [x])⟩) := by
              unfold strings_Builder_WriteByte strings_Builder_copyCheck
              rw [app_eq (by rw [bi_len]; simp; omega), Option.bind_some, bi_app]; rfl
            rw [hwb, Option.bind_some, Option.bind_some]
            simp only
            rw [wrapN (z := 1 + ((k : Nat) : Int)) (n := 1 + k) (by omega) (by omega), wrapN (n := at_ + (1 + k)) (by omega) (by omega)]
        · rw [decide_eq_false h3, cond_false, if_neg h3]
          have hv : ¬ (d1 = 65533 ∧ d2 = 1) := fun h => h2 (.inl h)
          have har := appendRune_eq (l := (tl s).drop at_) (a := a) hne (by rw [hD]; exact hv) (by omega)
          rw [hD] at har
          have hwr : strings_Builder_WriteRune (⟨bi a⟩ : S50) ((d1 : Nat) : Int) = some (IntKind.wrap .i64 (((bi (a ++ ((tl s).drop at_).take d2)).length : Int) - ((bi a).length : Int)), (), ⟨bi (a ++ ((tl s).drop at_).take d2)⟩) := by
            unfold strings_Builder_WriteRune strings_Builder_copyCheck
            rw [har, Option.bind_some]
          rw [hwr, Option.bind_some, Option.bind_some]
          simp only
          rw [wrapN (n := at_ + d2) (by omega) (by omega)]
      have step : ∀ (a' : List UInt8) (j : Nat), lex_quoted_l32 s (q : Int) ((), bi a, (at_ : Int)) = some (.inl ((), bi a', ((j : Nat) : Int))) → at_ < j → j ≤ s.size → a'.length ≤ j →
          (loopO (lex_quoted_l32 s (q : Int)) ((), bi a, (at_ : Int))).map qfin = some (match textP q ((tl s).drop j) with | some (o, n) => (⟨(a' ++ o).toArray⟩, ((j + n : Nat) : Int)) | none => (⟨#[]⟩, 0)) := fun a' j h1 h2 h3 h4 => by
        rw [loopO_step h1]; exact ih (s.size - j) (by omega) j a' rfl h3 h4
      by_cases h1 : (decodeL ((tl s).drop at_)).1 = q
      · rw [if_pos h1] at hbody ⊢
        rw [loopO_done hbody]
        simp [qfin]
      rw [if_neg h1] at hbody ⊢
      by_cases h2 : ((decodeL ((tl s).drop at_)).1 = 65533 ∧ (decodeL ((tl s).drop at_)).2 = 1) ∨ (decodeL ((tl s).drop at_)).1 = 10
      · rw [if_pos h2] at hbody ⊢
        rw [loopO_done hbody]; rfl
      rw [if_neg h2] at hbody ⊢
      by_cases h3 : (decodeL ((tl s).drop at_)).1 = 92
      · rw [if_pos h3] at hbody ⊢
        rw [List.drop_drop]
        cases hk : escL ((tl s).drop (at_ + 1)) with
        | none =>
          rw [hk] at hbody
          rw [loopO_done hbody]; rfl
        | some xk =>
          obtain ⟨x, k⟩ := xk
          have hkl := escL_low hk
          rw [List.length_drop] at hkl
          rw [hk] at hbody
          simp only at hbody ⊢
          rw [step _ _ hbody (by omega) (by omega) (by simp; omega), List.drop_drop]
          cases textP q ((tl s).drop (at_ + (1 + k))) with
          | none => rfl
          | some on => simp [Nat.add_assoc, Nat.add_comm, Nat.add_left_comm]
      · rw [if_neg h3] at hbody ⊢
        rw [step _ _ hbody (by omega) (by omega) (by rw [List.length_append, List.length_take]; omega), List.drop_drop]
        cases textP q ((tl s).drop (at_ + (decodeL ((tl s).drop at_)).2)) with
        | none => rfl
        | some on => simp [Nat.add_assoc, Nat.add_comm, Nat.add_left_comm]
    · have he : lex_quoted_l32 s (q : Int) ((), bi a, (at_ : Int)) = some (.inr (.inl ())) := by
        unfold lex_quoted_l32
        rw [show decide ((((), bi a, (at_ : Int)) : Unit × List Int × Int).2.2 < (s.size : Int)) = false from decide_eq_false (by show ¬ ((at_ : Int) < (s.size : Int)); omega)]; rfl
      rw [loopO_done he, List.drop_eq_nil_of_le (by omega), textP]
      simp [qfin]
theorem lex_quoted_eq {s : ByteArray} (hs : s.size < 1073741824) (h0 : 0 < s.size) (hq : gB (tl s) 0 < 128) :
    lex_quoted s = some (match textP (gB (tl s) 0) ((tl s).drop 1) with | some (o, n) => (⟨o.toArray⟩, ((n + 1 : Nat) : Int)) | none => (⟨#[]⟩, 0)) := by
  unfold lex_quoted
  refine bind_of (show bx s 0 = some ((gB (tl s) 0 : Nat) : Int) from bx_tl (i := 0) h0) ?_
  have h := quoted_loop (s := s) hq hs (s.size - 1) 1 [] rfl (by omega) (by simp)
  obtain ⟨r, hr, hf⟩ := Option.map_eq_some_iff.1 h
  refine bind_of (show loopO (lex_quoted_l32 s ((gB (tl s) 0 : Nat) : Int)) ((), [], 1) = some r from hr) ?_
  refine Eq.trans (b := some (qfin r)) (by cases r <;> rfl) ?_
  rw [hf]
  cases textP (gB (tl s) 0) ((tl s).drop 1) with
  | none => rfl
  | some on => simp [Nat.add_comm]
/-! ### blanks and remarks -/
def sfin (e : Int) : (Unit) ⊕ (Int) → Int | .inl _ => e | .inr v => v
theorem skip_loop {s : ByteArray} {a : Nat} (hs : s.size + a < 1073741824) : ∀ (m p : Nat) (rem : Bool), s.size - p = m → p ≤ s.size →
    (loopO (lex_skip_l20 (a : Int) s) (p, rem)).map (sfin ((a + s.size : Nat) : Int)) = some ((a + p + (if rem then runL lineN ((tl s).drop p) + skipL ((tl s).drop (p + runL lineN ((tl s).drop p))) else skipL ((tl s).drop p)) : Nat) : Int) := by
  intro m
  induction m using Nat.strongRecOn with
  | _ m ih =>
    intro p rem hm hp
    have hl := tl_len s
    by_cases hlt : p < s.size
    · have hne : (tl s).drop p ≠ [] := by intro h; have := congrArg List.length h; rw [List.length_drop, List.length_nil] at this; omega
      have hw := decodeL_width ((tl s).drop p)
      have hwl := decodeL_le _ hne
      rw [List.length_drop] at hwl
      have hra : runeAt s p = (((decodeL ((tl s).drop p)).1 : Nat) : Int) := by unfold runeAt; rw [decodeL_drop]
      have hrw : runeW s p = (decodeL ((tl s).drop p)).2 := by unfold runeW; rw [decodeL_drop]
      have hg : gB ((tl s).drop p) 0 = gB (tl s) p := by rw [gB_drop]; rfl
      have hbody : lex_skip_l20 (a : Int) s (p, rem) =
          if (decodeL ((tl s).drop p)).1 = 10 then some (.inl (p + (decodeL ((tl s).drop p)).2, false))
          else if rem = true ∨ (decodeL ((tl s).drop p)).1 = 32 ∨ (decodeL ((tl s).drop p)).1 = 9 ∨ (decodeL ((tl s).drop p)).1 = 13 then some (.inl (p + (decodeL ((tl s).drop p)).2, rem))
          else if (decodeL ((tl s).drop p)).1 = 35 then some (.inl (p + (decodeL ((tl s).drop p)).2, true))
          else some (.inr (.inr ((a + p : Nat) : Int))) := by
        unfold lex_skip_l20
        simp only [hra, hrw]
        rw [decide_eq_true hlt, cond_true]
        generalize decodeL ((tl s).drop p) = D
        obtain ⟨d1, d2⟩ := D
        simp only
        have e1 : ∀ k : Nat, (((d1 : Nat) : Int) == (k : Int)) = decide (d1 = k) := fun k => by rw [Bool.eq_iff_iff, beq_iff_eq, decide_eq_true_eq]; omega
        rw [show (((d1 : Nat) : Int) == 10) = decide (d1 = 10) from e1 10, show (((d1 : Nat) : Int) == 32) = decide (d1 = 32) from e1 32, show (((d1 : Nat) : Int) == 9) = decide (d1 = 9) from e1 9, show (((d1 : Nat) : Int) == 13) = decide (d1 = 13) from e1 13, show (((d1 : Nat) : Int) == 35) = decide (d1 = 35) from e1 35,
          wrapN (n := a + p) (by omega) (by omega)]
        by_cases k1 : d1 = 10
        · simp [k1]
        by_cases k2 : d1 = 32
        · simp [k2]
        by_cases k3 : d1 = 9
        · simp [k3]
        by_cases k4 : d1 = 13
        · simp [k4]
        by_cases k5 : d1 = 35
        · cases rem <;> simp [k5]
        · cases rem <;> simp [k1, k2, k3, k4, k5]
      have step : ∀ (r' : Bool) (w : Nat), lex_skip_l20 (a : Int) s (p, rem) = some (.inl (p + w, r')) → 1 ≤ w → p + w ≤ s.size →
          (loopO (lex_skip_l20 (a : Int) s) (p, rem)).map (sfin ((a + s.size : Nat) : Int)) = some ((a + (p + w) + (if r' then runL lineN ((tl s).drop (p + w)) + skipL ((tl s).drop (p + w + runL lineN ((tl s).drop (p + w)))) else skipL ((tl s).drop (p + w))) : Nat) : Int) := fun r' w h1 h2 h3 => by
        rw [loopO_step h1]; exact ih (s.size - (p + w)) (by omega) (p + w) r' rfl h3
      by_cases h128 : gB ((tl s).drop p) 0 < 128
      · have hd := Go.GB.decode_ascii h128
        rw [hd] at hbody hwl
        simp only at hbody hwl
        rw [hg] at hbody h128
        generalize hc : gB (tl s) p = c at *
        have hsk : skipL ((tl s).drop p) = if blankN c = true then 1 + skipL ((tl s).drop (p + 1)) else if c = 35 then (1 + runL lineN ((tl s).drop (p + 1))) + skipL ((tl s).drop (p + (1 + runL lineN ((tl s).drop (p + 1))))) else 0 := by
          rw [skipL, dif_neg hne, hg, List.drop_drop, List.drop_drop]
        have hrl : runL lineN ((tl s).drop p) = if lineN c = true then runL lineN ((tl s).drop (p + 1)) + 1 else 0 := by rw [runL_step (by omega), hc]
        by_cases k1 : c = 10
        · rw [if_pos k1] at hbody
          rw [step _ _ hbody (by omega) (by omega)]
          subst k1
          rw [hrl, if_neg (show ¬ lineN 10 = true by decide)]
          simp only [Nat.add_zero, Nat.zero_add]
          rw [hsk, if_pos (show blankN 10 = true by decide)]
          congr 2
          cases rem with
          | true => simp only [if_true, Bool.false_eq_true, if_false]; omega
          | false => simp only [Bool.false_eq_true, if_false]; omega
        rw [if_neg k1] at hbody
        have hln : lineN c = true := by unfold lineN; simp [k1]
        rw [if_pos hln] at hrl
        by_cases k2 : rem = true ∨ c = 32 ∨ c = 9 ∨ c = 13
        · rw [if_pos k2] at hbody
          rw [step _ _ hbody (by omega) (by omega)]
          congr 2
          cases rem with
          | true =>
            simp only [if_true]
            rw [hrl, show p + 1 + runL lineN ((tl s).drop (p + 1)) = p + (runL lineN ((tl s).drop (p + 1)) + 1) from by omega]; omega
          | false =>
            have k3 : c = 32 ∨ c = 9 ∨ c = 13 := by rcases k2 with h | h; cases h; exact h
            have : blankN c = true := by unfold blankN; rcases k3 with rfl | rfl | rfl <;> rfl
            simp only [Bool.false_eq_true, if_false]
            rw [hsk, if_pos this]; omega
        rw [if_neg k2] at hbody
        rw [not_or, Bool.not_eq_true] at k2
        obtain ⟨rfl, k3⟩ := k2
        have hb : ¬ blankN c = true := by unfold blankN; simp; omega
        simp only [Bool.false_eq_true, if_false]
        rw [hsk, if_neg hb]
        by_cases k4 : c = 35
        · rw [if_pos k4] at hbody
          rw [step _ _ hbody (by omega) (by omega), if_pos k4]
          simp only [if_true]
          congr 2
          rw [show p + (1 + runL lineN ((tl s).drop (p + 1))) = p + 1 + runL lineN ((tl s).drop (p + 1)) from by omega]; omega
        · rw [if_neg k4] at hbody
          rw [loopO_done hbody, if_neg k4]; rfl
      · have hbig := Go.GB.decode_big (l := (tl s).drop p) (by omega)
        rw [if_neg (by omega)] at hbody
        cases rem with
        | true =>
          rw [if_pos (.inl rfl)] at hbody
          rw [step _ _ hbody (by omega) (by omega)]
          simp only [if_true]
          have hh := runL_high (p := lineN) (decodeL ((tl s).drop p)).2 ((tl s).drop p) (by rw [List.length_drop]; omega) (fun i hi => by
            have : 128 ≤ gB ((tl s).drop p) i := by
              by_cases h1 : (decodeL ((tl s).drop p)).2 = 1
              · have : i = 0 := by omega
                rw [this]; omega
              · exact Go.GB.decode_high hi h1
            unfold lineN; simp; omega)
          rw [hh, List.drop_drop]
          congr 2
          rw [show p + ((decodeL ((tl s).drop p)).2 + runL lineN ((tl s).drop (p + (decodeL ((tl s).drop p)).2))) = p + (decodeL ((tl s).drop p)).2 + runL lineN ((tl s).drop (p + (decodeL ((tl s).drop p)).2)) from by omega]; omega
        | false =>
          rw [if_neg (by simp; omega), if_neg (by omega)] at hbody
          rw [loopO_done hbody]
          simp only [Bool.false_eq_true, if_false]
          rw [skipL, dif_neg hne, if_neg (by unfold blankN; simp; omega), if_neg (by omega)]; rfl
    · have he : lex_skip_l20 (a : Int) s (p, rem) = some (.inr (.inl ())) := by
        unfold lex_skip_l20
        rw [show decide (((p, rem) : Nat × Bool).1 < s.size) = false from decide_eq_false hlt]; rfl
      rw [loopO_done he]
      have e0 : (tl s).drop p = [] := List.drop_eq_nil_of_le (by omega)
      have e1 : ∀ k, (tl s).drop (p + k) = [] := fun k => List.drop_eq_nil_of_le (by omega)
      have hk0 : skipL [] = 0 := by rw [skipL]; rfl
      rw [e0, runL_nil, e1, hk0]
      show some ((a + s.size : Nat) : Int) = _
      congr 2
      cases rem <;> simp <;> omega
theorem lex_skip_eq {s : ByteArray} {a : Nat} (hs : s.size < 536870912) (ha : a ≤ s.size) : lex_skip s (a : Int) = some ((a + skipL ((tl s).drop a) : Nat) : Int) := by
  have hl := tl_len s
  have htl : tl (s.extract a s.size) = (tl s).drop a := by rw [tl_extract, List.take_of_length_le (by rw [List.length_drop]; omega)]
  have hsz : (s.extract a s.size).size = s.size - a := by rw [← tl_len, htl, List.length_drop, hl]
  unfold lex_skip
  refine bind_of (sx_tl ha (Nat.le_refl _)) ?_
  have h := skip_loop (s := s.extract a s.size) (a := a) (by omega) _ 0 false rfl (Nat.zero_le _)
  obtain ⟨r, hr, hf⟩ := Option.map_eq_some_iff.1 h
  refine bind_of hr ?_
  refine Eq.trans (b := some (sfin ((a + (s.extract a s.size).size : Nat) : Int) r)) ?_ ?_
  · cases r with
    | inl u => show some (s.size : Int) = some ((a + (s.extract a s.size).size : Nat) : Int); rw [hsz]; congr 2; omega
    | inr v => rfl
  · rw [hf, htl]
    simp
end Go.Proofs.YtlhpclfkoblnkaaDoor
