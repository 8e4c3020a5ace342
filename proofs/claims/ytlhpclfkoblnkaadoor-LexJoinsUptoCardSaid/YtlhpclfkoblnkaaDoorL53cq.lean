/- Parts: L53c. -/
import Derived.Test.YtlhpclfkoblnkaaDoorL53bq
set_option linter.unusedVariables false
set_option linter.unusedSimpArgs false
set_option maxRecDepth 100000
namespace Go.Proofs.YtlhpclfkoblnkaaDoor
open Go.GB
/-! 13 lex_Join  -/
noncomputable def lex_Join_l73 (j24 : (List S27)) : (Unit × (List Int) × Int) → Option ((Unit × (List Int) × Int) ⊕ ((Unit × (List Int)) ⊕ (ByteArray × Int))) := fun s51 =>
  bif (decide (s51.2.2 < (j24.length : Int))) then
  (Option.bind ((Option.bind (ix j24 s51.2.2) fun (x88 : S27) =>
      Option.bind ((bif (x88.f0 == 4) then
        (Option.bind (lex_Quote x88.f1) fun (y104 : ByteArray × Int) =>
          bif (y104.2 != 0) then
          (some (Sum.inr (Sum.inr (Sum.inr (Sum.inr ((⟨#[]⟩ : ByteArray), 130))))))
          else
          (some (Sum.inl y104.1)))
        else
        (Option.bind (bif (x88.f0 == 1) then
            (some (x88.f0 == 1))
            else
            (Option.bind (bif (x88.f0 == 2) then
                (some (x88.f0 == 2))
                else
                (Option.bind (bif (x88.f0 == 3) then
                    (some (x88.f0 == 3))
                    else
                    (some (x88.f0 == 5))) fun (j119 : Bool) =>
                  some j119)) fun (j113 : Bool) =>
              some j113)) fun (j107 : Bool) =>
          bif j107 then
          (Option.bind (lex_alone x88.f1 x88.f0) fun (y126 : Bool) =>
            bif (!y126) then
            (some (Sum.inr (Sum.inr (Sum.inr (Sum.inr ((⟨#[]⟩ : ByteArray), 130))))))
            else
            (some (Sum.inl x88.f1)))
          else
          (some (Sum.inr (Sum.inr (Sum.inr (Sum.inr ((⟨#[]⟩ : ByteArray), 130))))))) : Option ((ByteArray) ⊕ ((Unit × (List Int)) ⊕ ((Unit × (List Int) × Int) ⊕ ((Unit × (List Int)) ⊕ (ByteArray × Int))))))) fun (j97 : (ByteArray) ⊕ ((Unit × (List Int)) ⊕ ((Unit × (List Int) × Int) ⊕ ((Unit × (List Int)) ⊕ (ByteArray × Int))))) =>
      match j97 with
      | Sum.inl j99 => bif (decide ((strings_Builder_Len (⟨s51.2.1⟩ : S50)) > 65536)) then
        (some (Sum.inl ((), s51.2.1)))
        else
        (Option.bind (bif (decide (s51.2.2 > 0)) then
            (Option.bind (strings_Builder_WriteByte (⟨s51.2.1⟩ : S50) 32) fun (y145 : Unit × S50) =>
              some ((), y145.2.f1))
            else
            (some ((), s51.2.1))) fun (j133 : Unit × (List Int)) =>
          Option.bind (strings_Builder_WriteString (⟨j133.2⟩ : S50) j99) fun (y156 : Int × Unit × S50) =>
          some (Sum.inl ((), y156.2.2.f1)))
      | Sum.inr v167 => some v167 : Option ((Unit × (List Int)) ⊕ ((Unit × (List Int) × Int) ⊕ ((Unit × (List Int)) ⊕ (ByteArray × Int)))))) fun (j76 : (Unit × (List Int)) ⊕ ((Unit × (List Int) × Int) ⊕ ((Unit × (List Int)) ⊕ (ByteArray × Int)))) =>
    match j76 with
    | Sum.inl j78 => some (Sum.inl ((), j78.2, (IntKind.wrap .i64 (s51.2.2 + 1))))
    | Sum.inr v168 => some v168)
  else
  (some (Sum.inr (Sum.inl ((), s51.2.1))))
noncomputable def lex_Join (a0 : List S27) : Option (ByteArray × Int) :=
  Option.bind (bif (decide ((a0.length : Int) > 0)) then
    (Option.bind (ix a0 (IntKind.wrap .i64 ((a0.length : Int) - 1))) fun (x7 : S27) =>
      bif (x7.f0 == 0) then
      (Option.bind (ix a0 (IntKind.wrap .i64 ((a0.length : Int) - 1))) fun (x16 : S27) =>
        some (x16.f1.toList == (⟨#[]⟩ : ByteArray).toList))
      else
      (some false))
    else
    (some false)) fun (j1 : Bool) =>
  Option.bind (bif j1 then
    (Option.bind (lx a0 0 (IntKind.wrap .i64 ((a0.length : Int) - 1))) fun (l34 : List S27) =>
      some l34)
    else
    (some a0)) fun (j24 : (List S27)) =>
  Option.bind (loopO (lex_Join_l73 j24) ((), [], 0)) fun (r49 : (Unit × (List Int)) ⊕ (ByteArray × Int)) =>
  match r49 with
  | Sum.inl r63 => bif (decide ((strings_Builder_Len (⟨r63.2⟩ : S50)) > 65536)) then
    (some ((⟨#[]⟩ : ByteArray), 4))
    else
    (bif (decide ((IntKind.wrap .i64 ((j24.length : Int) + 1)) > 4096)) then
      (some ((⟨#[]⟩ : ByteArray), 7))
      else
      (Option.bind (strings_Builder_String (⟨r63.2⟩ : S50)) fun (y174 : ByteArray) =>
        some (y174, 0)))
  | Sum.inr v179 => some v179
theorem lex_Join_walk {a0 : List S27} {A0_0 : Option Addr} {n0_0 : Nat} {I : Imm} {r : ByteArray × Int} (hG : Gl I)  (hf0_0 : RepS kS27 I A0_0 n0_0 a0) (hr : lex_Join a0 = some r) (L : Own) :
    CallsTo Tryd.prog 13 #[.slice A0_0 a0.length n0_0] I L (fun v I' L' => v = .tuple #[.string r.1, .int .i64 r.2] ∧ L = L') := by
  unfold lex_Join at hr
  refine callsTo_body (N := 85) Tryd.func13 (by kernel_rfl) (by kernel_rfl) (by kernel_rfl) ?_
  refine gk_pick [0] (K' := [(0, .slice A0_0 a0.length n0_0)]) (by kernel_rfl) ?_
  refine gk_seq (by kernel_rfl) ?_
  refine gk_region (by kernel_rfl) ?_
  refine gl_pure 2 [0] (K' := [(0, .slice A0_0 a0.length n0_0)]) (by kernel_rfl) ?_
  refine gl_atE (by kernel_rfl) ?_
  refine ge_seq ?_
  refine gk_seq (by kernel_rfl) ?_
  refine gk_seq (by kernel_rfl) ?_
  refine gk_region (by kernel_rfl) ?_
  refine gl_pure 3 [0, 4] (K' := [(0, .slice A0_0 a0.length n0_0), (4, .int .i64 (a0.length : Int))]) (by kernel_rfl) ?_
  refine gl_atE (by kernel_rfl) ?_
  refine ge_seq ?_
  refine gk_seq (by kernel_rfl) ?_
  obtain ⟨j1, hj2, hr⟩ := bind_some hr
  refine gk_join (fun t I' L' => I ≤ I' ∧ L = L' ∧ Knows 85 [(0, .slice A0_0 a0.length n0_0), (4, .int .i64 (a0.length : Int)), (32, .bool j1)] t) ?_ ?_
  · refine gk_region (by kernel_rfl) ?_
    refine gl_pure 3 [0, 4, 15] (K' := [(0, .slice A0_0 a0.length n0_0), (4, .int .i64 (a0.length : Int)), (15, .bool (decide ((a0.length : Int) > 0)))]) (by kernel_rfl) ?_
    refine gl_case 15 (b := (decide ((a0.length : Int) > 0))) (by kernel_rfl) (fun hc6 => ?_) (fun hc6 => ?_)
    · have hj2 := cond_t hc6 hj2
      refine gl_pure 3 [0, 4, 15, 16, 18] (K' := [(0, .slice A0_0 a0.length n0_0), (4, .int .i64 (a0.length : Int)), (15, .bool true), (16, .slice A0_0 a0.length n0_0), (18, .int .i64 (IntKind.wrap .i64 ((a0.length : Int) - 1)))]) (by kernel_rfl) ?_
      obtain ⟨x7, hx8, hj2⟩ := bind_some hj2
      obtain ⟨p9, cs10, hR11, hA12, ha13⟩ := RepS.ixAt hx8 hf0_0
      have hi14 := ix_some hx8
      obtain rfl := kS27_open hR11
      refine gl_indexAddrF (c := n0_0) (T' := 22) (e := 28) (xs := (.tmp 16)) (xi := (.tmp 18)) (kd := .i64) ha13 hi14.1 hi14.2.1 (by kernel_rfl) (by kernel_rfl) (by kernel_rfl) (by kernel_rfl) (by kernel_rfl) ?_
      refine gl_pure 1 [0, 4, 15, 20] (K' := [(0, .slice A0_0 a0.length n0_0), (4, .int .i64 (a0.length : Int)), (15, .bool true), (20, .pointer (some (p9.add 0)))]) (by kernel_rfl) ?_
      refine gl_load (T' := 3) (xp := (.tmp 20)) (p := (p9.add 0)) (c := .int .i64 x7.f0) (n := 1) (by kernel_rfl) (by kernel_rfl) (by kernel_rfl) (by kernel_rfl) (hA12.drop 0) ?_
      refine gl_pure 3 [0, 4, 24] (K' := [(0, .slice A0_0 a0.length n0_0), (4, .int .i64 (a0.length : Int)), (24, .bool (x7.f0 == 0))]) (by kernel_rfl) ?_
      refine gl_case 24 (b := (x7.f0 == 0)) (by kernel_rfl) (fun hc15 => ?_) (fun hc15 => ?_)
      · have hj2 := cond_t hc15 hj2
        refine gl_pure 3 [0, 4, 24, 25, 27] (K' := [(0, .slice A0_0 a0.length n0_0), (4, .int .i64 (a0.length : Int)), (24, .bool true), (25, .slice A0_0 a0.length n0_0), (27, .int .i64 (IntKind.wrap .i64 ((a0.length : Int) - 1)))]) (by kernel_rfl) ?_
        obtain ⟨x16, hx17, hj2⟩ := bind_some hj2
        obtain ⟨p18, cs19, hR20, hA21, ha22⟩ := RepS.ixAt hx17 hf0_0
        have hi23 := ix_some hx17
        obtain rfl := kS27_open hR20
        refine gl_indexAddrF (c := n0_0) (T' := 22) (e := 28) (xs := (.tmp 25)) (xi := (.tmp 27)) (kd := .i64) ha22 hi23.1 hi23.2.1 (by kernel_rfl) (by kernel_rfl) (by kernel_rfl) (by kernel_rfl) (by kernel_rfl) ?_
        refine gl_pure 1 [0, 4, 24, 29] (K' := [(0, .slice A0_0 a0.length n0_0), (4, .int .i64 (a0.length : Int)), (24, .bool true), (29, .pointer (some (p18.add 1)))]) (by kernel_rfl) ?_
        refine gl_load (T' := 9) (xp := (.tmp 29)) (p := (p18.add 1)) (c := .string x16.f1) (n := 1) (by kernel_rfl) (by kernel_rfl) (by kernel_rfl) (by kernel_rfl) (hA21.drop 1) ?_
        refine gl_pure 2 [0, 4, 32] (K' := [(0, .slice A0_0 a0.length n0_0), (4, .int .i64 (a0.length : Int)), (32, .bool (x16.f1.toList == (⟨#[]⟩ : ByteArray).toList))]) (by kernel_rfl) ?_
        refine gl_atE (by kernel_rfl) ?_
        obtain rfl := some_inj hj2
        exact ge_mid fun t ht => ⟨(Imm.refl _), rfl, ht.pick (l := [0, 4, 32]) (by kernel_rfl)⟩
      · have hj2 := cond_f hc15 hj2
        refine gl_pure 8 [0, 4, 32] (K' := [(0, .slice A0_0 a0.length n0_0), (4, .int .i64 (a0.length : Int)), (32, .bool false)]) (by kernel_rfl) ?_
        refine gl_atE (by kernel_rfl) ?_
        obtain rfl := some_inj hj2
        exact ge_mid fun t ht => ⟨(Imm.refl _), rfl, ht.pick (l := [0, 4, 32]) (by kernel_rfl)⟩
    · have hj2 := cond_f hc6 hj2
      refine gl_pure 17 [0, 4, 32] (K' := [(0, .slice A0_0 a0.length n0_0), (4, .int .i64 (a0.length : Int)), (32, .bool false)]) (by kernel_rfl) ?_
      refine gl_atE (by kernel_rfl) ?_
      obtain rfl := some_inj hj2
      exact ge_mid fun t ht => ⟨(Imm.refl _), rfl, ht.pick (l := [0, 4, 32]) (by kernel_rfl)⟩
  · rintro t I5 L' ⟨hI3, rfl, hK4⟩
    refine ge_at hK4 ?_
    refine ge_seq ?_
    obtain ⟨j24, hj25, hr⟩ := bind_some hr
    refine gk_join (fun t I' L' => ∃ A27 n28, RepS kS27 I' A27 n28 j24 ∧ I5 ≤ I' ∧ L = L' ∧ Knows 85 [(0, .slice A27 j24.length n28)] t) ?_ ?_
    · refine gk_cond (b := j1) (by kernel_rfl) (by kernel_rfl) (fun hc32 => ?_) (fun hc32 => ?_)
      · have hj25 := cond_t hc32 hj25
        refine gk_region (by kernel_rfl) ?_
        refine gl_pure 3 [33, 35] (K' := [(33, .slice A0_0 a0.length n0_0), (35, .int .i64 (IntKind.wrap .i64 ((a0.length : Int) - 1)))]) (by kernel_rfl) ?_
        obtain ⟨l34, hx33, hj25⟩ := bind_some hj25
        refine gl_sliceR (d := kS27) (T' := 22) (e := 28) (xs := (.tmp 33)) (lo := none) (hi := (some (.tmp 35))) hx33 (hf0_0.mono hI3) (by kernel_rfl) (by kernel_rfl) (by kernel_rfl) (by kernel_rfl) (by kernel_rfl) (by kernel_rfl) (fun A35 n36 hf37 => ?_)
        refine gl_pure 1 [0] (K' := [(0, .slice A35 l34.length n36)]) (by kernel_rfl) ?_
        refine gl_atE (by kernel_rfl) ?_
        obtain rfl := some_inj hj25
        exact ge_mid fun t ht => ⟨A35, n36, hf37, (Imm.refl _), rfl, ht.pick (l := [0]) (by kernel_rfl)⟩
      · have hj25 := cond_f hc32 hj25
        refine gk_skip (by kernel_rfl) ?_
        obtain rfl := some_inj hj25
        exact ge_mid fun t ht => ⟨A0_0, n0_0, (hf0_0.mono hI3), (Imm.refl _), rfl, ht.pick (l := [0]) (by kernel_rfl)⟩
    · rintro t I31 L' ⟨A27, n28, hf29, hI26, rfl, hK30⟩
      refine ge_at hK30 ?_
      refine ge_seq ?_
      refine gk_seq (by kernel_rfl) ?_
      refine gk_region (by kernel_rfl) ?_
      refine gl_alloc (T' := 51) (cs := #[.pointer none, .slice none 0 0]) (by kernel_rfl) (by kernel_rfl) (by kernel_rfl) (fun g38 => ?_)
      refine gl_atE (by kernel_rfl) ?_
      refine ge_seq ?_
      refine gk_seq (by kernel_rfl) ?_
      refine gk_seq (by kernel_rfl) ?_
      refine gk_region (by kernel_rfl) ?_
      refine gl_pure 3 [0, 5, 37, 38, 39] (K' := [(0, .slice A27 j24.length n28), (5, .pointer (some ⟨g38, 0, none⟩)), (37, .slice A27 j24.length n28), (38, .int .i64 (j24.length : Int)), (39, .int .i64 0)]) (by kernel_rfl) ?_
      refine gl_atE (by kernel_rfl) ?_
      refine ge_seq ?_
      obtain ⟨r49, hl50, hr⟩ := bind_some hr
      refine gk_join (fun t I' L' => ∃ r63, r49 = Sum.inl r63 ∧ ∃ q65 A67 n68 C69, (q65 = none ∨ q65 = some (⟨g38, 0, none⟩ : Addr)) ∧ OwnS (Kd.int .u8) 5 I' A67 n68 r63.2 C69 ∧ I31 ≤ I' ∧ C69 ++ ((g38, .cells #[.pointer q65, .slice A67 r63.2.length n68] 51) :: L) = L' ∧ Knows 85 [(0, .slice A27 j24.length n28), (5, .pointer (some ⟨g38, 0, none⟩))] t) ?_ ?_
      · refine gk_block (by kernel_rfl) ?_
        refine gk_pick [0, 5, 37, 38, 39] (K' := [(0, .slice A27 j24.length n28), (5, .pointer (some ⟨g38, 0, none⟩)), (37, .slice A27 j24.length n28), (38, .int .i64 (j24.length : Int)), (39, .int .i64 0)]) (by kernel_rfl) ?_
        intro t hK
        refine gc_loop (lex_Join_l73 j24) (fun s51 t I' L' => ∃ q55 A57 n58 C59, (q55 = none ∨ q55 = some (⟨g38, 0, none⟩ : Addr)) ∧ OwnS (Kd.int .u8) 5 I' A57 n58 s51.2.1 C59 ∧ I31 ≤ I' ∧ C59 ++ ((g38, .cells #[.pointer q55, .slice A57 s51.2.1.length n58] 51) :: L) = L' ∧ Knows 85 [(0, .slice A27 j24.length n28), (5, .pointer (some ⟨g38, 0, none⟩)), (37, .slice A27 j24.length n28), (38, .int .i64 (j24.length : Int)), (39, .int .i64 s51.2.2)] t) (by kernel_rfl) ?_ hl50 ⟨none, none, 0, [], (Or.inl rfl), OwnS.nil _ _ _ _, (Imm.refl _), rfl, hK⟩
        rintro s51 o52 t I62 L' hb53 ⟨q55, A57, n58, C59, hq56, hO60, hI54, rfl, hK61⟩
        unfold lex_Join_l73 at hb53
        refine gk_at hK61 ?_
        refine gk_seq (by kernel_rfl) ?_
        refine gk_region (by kernel_rfl) ?_
        refine gl_pure 1 [0, 5, 37, 38, 39, 40] (K' := [(0, .slice A27 j24.length n28), (5, .pointer (some ⟨g38, 0, none⟩)), (37, .slice A27 j24.length n28), (38, .int .i64 (j24.length : Int)), (39, .int .i64 s51.2.2), (40, .bool (decide (s51.2.2 < (j24.length : Int))))]) (by kernel_rfl) ?_
        refine gl_atE (by kernel_rfl) ?_
        refine ge_seq ?_
        refine gk_seq (by kernel_rfl) ?_
        refine gk_cond (b := (decide (s51.2.2 < (j24.length : Int)))) (by kernel_rfl) (by kernel_rfl) (fun hc75 => ?_) (fun hc75 => ?_)
        · have hb53 := cond_t hc75 hb53
          refine gk_skip (by kernel_rfl) ?_
          refine ge_seq ?_
          refine gk_seq (by kernel_rfl) ?_
          obtain ⟨j76, hj77, hb53⟩ := bind_some hb53
          refine gk_join (fun t I' L' => ∃ j78, j76 = Sum.inl j78 ∧ ∃ q80 A82 n83 C84, (q80 = none ∨ q80 = some (⟨g38, 0, none⟩ : Addr)) ∧ OwnS (Kd.int .u8) 5 I' A82 n83 j78.2 C84 ∧ I62 ≤ I' ∧ C84 ++ ((g38, .cells #[.pointer q80, .slice A82 j78.2.length n83] 51) :: L) = L' ∧ Knows 85 [(0, .slice A27 j24.length n28), (5, .pointer (some ⟨g38, 0, none⟩)), (37, .slice A27 j24.length n28), (38, .int .i64 (j24.length : Int)), (39, .int .i64 s51.2.2)] t) ?_ ?_
          · refine gk_block (by kernel_rfl) ?_
            refine gk_seq (by kernel_rfl) ?_
            refine gk_region (by kernel_rfl) ?_
            refine gl_pure 1 [0, 5, 37, 38, 39, 41] (K' := [(0, .slice A27 j24.length n28), (5, .pointer (some ⟨g38, 0, none⟩)), (37, .slice A27 j24.length n28), (38, .int .i64 (j24.length : Int)), (39, .int .i64 s51.2.2), (41, .int .i64 s51.2.2)]) (by kernel_rfl) ?_
            obtain ⟨x88, hx89, hj77⟩ := bind_some hj77
            obtain ⟨p90, cs91, hR92, hA93, ha94⟩ := RepS.ixAt hx89 (hf29.mono hI54)
            have hi95 := ix_some hx89
            obtain rfl := kS27_open hR92
            refine gl_indexAddrF (c := n28) (T' := 22) (e := 28) (xs := (.tmp 37)) (xi := (.tmp 39)) (kd := .i64) ha94 hi95.1 hi95.2.1 (by kernel_rfl) (by kernel_rfl) (by kernel_rfl) (by kernel_rfl) (by kernel_rfl) ?_
            refine gl_loadA (T' := 28) (xp := (.tmp 42)) (p := p90) (cs := [.int .i64 x88.f0, .string x88.f1, .int .i64 x88.f2]) (by kernel_rfl) (by kernel_rfl) (by kernel_rfl) (by kernel_rfl) (hA93.take 3) ?_
            refine gl_alloc (T' := 28) (cs := #[.int .i64 0, .string (⟨#[]⟩ : ByteArray), .int .i64 0]) (by kernel_rfl) (by kernel_rfl) (by kernel_rfl) (fun g96 => ?_)
            refine gl_pure 1 [0, 5, 6, 7, 37, 38, 39, 43] (K' := [(0, .slice A27 j24.length n28), (5, .pointer (some ⟨g38, 0, none⟩)), (6, .int .i64 s51.2.2), (7, .pointer (some ⟨g96, 0, none⟩)), (37, .slice A27 j24.length n28), (38, .int .i64 (j24.length : Int)), (39, .int .i64 s51.2.2), (43, .agg #[.int .i64 x88.f0, .string x88.f1, .int .i64 x88.f2])]) (by kernel_rfl) ?_
            refine gl_storeB (T' := 28) (xp := (.tmp 7)) (xv := (.tmp 43)) (v := .agg #[.int .i64 x88.f0, .string x88.f1, .int .i64 x88.f2]) (g := g96) (off := 0) (cs := #[.int .i64 0, .string (⟨#[]⟩ : ByteArray), .int .i64 0]) (cs' := #[.int .i64 x88.f0, .string x88.f1, .int .i64 x88.f2]) (by kernel_rfl) (by kernel_rfl) (by kernel_rfl) (by kernel_rfl) (by kernel_rfl) (Upd.set _ _ _ _) ?_ (by kernel_rfl)
            refine gl_atE (by kernel_rfl) ?_
            refine ge_seq ?_
            refine gk_seq (by kernel_rfl) ?_
            refine gk_region (by kernel_rfl) ?_
            refine gl_pure 1 [0, 5, 6, 7, 37, 38, 39, 44] (K' := [(0, .slice A27 j24.length n28), (5, .pointer (some ⟨g38, 0, none⟩)), (6, .int .i64 s51.2.2), (7, .pointer (some ⟨g96, 0, none⟩)), (37, .slice A27 j24.length n28), (38, .int .i64 (j24.length : Int)), (39, .int .i64 s51.2.2), (44, .pointer (some ⟨g96, 1, none⟩))]) (by kernel_rfl) ?_
            refine gl_loadB (T' := 9) (xp := (.tmp 44)) (v := .string x88.f1) (g := g96) (off := 1) (cs := #[.int .i64 x88.f0, .string x88.f1, .int .i64 x88.f2]) (e := 28) (fz := (0, 0)) (by kernel_rfl) (by kernel_rfl) (by kernel_rfl) List.mem_cons_self (by kernel_rfl) ?_
            refine gl_pure 1 [0, 5, 6, 7, 8, 37, 38, 39] (K' := [(0, .slice A27 j24.length n28), (5, .pointer (some ⟨g38, 0, none⟩)), (6, .int .i64 s51.2.2), (7, .pointer (some ⟨g96, 0, none⟩)), (8, .string x88.f1), (37, .slice A27 j24.length n28), (38, .int .i64 (j24.length : Int)), (39, .int .i64 s51.2.2)]) (by kernel_rfl) ?_
            refine gl_atE (by kernel_rfl) ?_
            refine ge_seq ?_
            refine gk_seq (by kernel_rfl) ?_
            refine gk_seq (by kernel_rfl) ?_
            refine gk_region (by kernel_rfl) ?_
            refine gl_pure 1 [0, 5, 6, 7, 8, 37, 38, 39, 46] (K' := [(0, .slice A27 j24.length n28), (5, .pointer (some ⟨g38, 0, none⟩)), (6, .int .i64 s51.2.2), (7, .pointer (some ⟨g96, 0, none⟩)), (8, .string x88.f1), (37, .slice A27 j24.length n28), (38, .int .i64 (j24.length : Int)), (39, .int .i64 s51.2.2), (46, .pointer (some ⟨g96, 0, none⟩))]) (by kernel_rfl) ?_
            refine gl_loadB (T' := 3) (xp := (.tmp 46)) (v := .int .i64 x88.f0) (g := g96) (off := 0) (cs := #[.int .i64 x88.f0, .string x88.f1, .int .i64 x88.f2]) (e := 28) (fz := (0, 0)) (by kernel_rfl) (by kernel_rfl) (by kernel_rfl) List.mem_cons_self (by kernel_rfl) ?_
            refine gl_atE (by kernel_rfl) ?_
            refine ge_seq ?_
            refine gk_block (by kernel_rfl) ?_
            refine gk_seq (by kernel_rfl) ?_
            refine gk_region (by kernel_rfl) ?_
            refine gl_pure 2 [0, 5, 6, 7, 8, 37, 38, 39, 47, 48] (K' := [(0, .slice A27 j24.length n28), (5, .pointer (some ⟨g38, 0, none⟩)), (6, .int .i64 s51.2.2), (7, .pointer (some ⟨g96, 0, none⟩)), (8, .string x88.f1), (37, .slice A27 j24.length n28), (38, .int .i64 (j24.length : Int)), (39, .int .i64 s51.2.2), (47, .int .i64 x88.f0), (48, .bool (x88.f0 == 4))]) (by kernel_rfl) ?_
            refine gl_atE (by kernel_rfl) ?_
            refine ge_seq ?_
            obtain ⟨j97, hj98, hj77⟩ := bind_some hj77
            refine gk_join (fun t I' L' => ∃ j99, j97 = Sum.inl j99 ∧ I62 ≤ I' ∧ C59 ++ ((g38, .cells #[.pointer q55, .slice A57 s51.2.1.length n58] 51) :: L) = L' ∧ Knows 85 [(0, .slice A27 j24.length n28), (5, .pointer (some ⟨g38, 0, none⟩)), (6, .int .i64 s51.2.2), (8, .string j99), (37, .slice A27 j24.length n28), (38, .int .i64 (j24.length : Int)), (39, .int .i64 s51.2.2)] t) ?_ ?_
            · refine gk_cond (b := (x88.f0 == 4)) (by kernel_rfl) (by kernel_rfl) (fun hc103 => ?_) (fun hc103 => ?_)
              · have hj98 := cond_t hc103 hj98
                refine gk_seq (by kernel_rfl) ?_
                refine gk_region (by kernel_rfl) ?_
                refine gl_pure 1 [0, 5, 6, 37, 38, 39, 51] (K' := [(0, .slice A27 j24.length n28), (5, .pointer (some ⟨g38, 0, none⟩)), (6, .int .i64 s51.2.2), (37, .slice A27 j24.length n28), (38, .int .i64 (j24.length : Int)), (39, .int .i64 s51.2.2), (51, .string x88.f1)]) (by kernel_rfl) ?_
                obtain ⟨y104, hx105, hj98⟩ := bind_some hj98
                refine gl_callQ (by kernel_rfl) (lex_Quote_walk (r := y104) (hG.mono (Imm.trans (Imm.trans hI3 hI26) hI54)) hx105 _) ?_
                refine gl_pure 5 [0, 5, 6, 9, 10, 37, 38, 39] (K' := [(0, .slice A27 j24.length n28), (5, .pointer (some ⟨g38, 0, none⟩)), (6, .int .i64 s51.2.2), (9, .string y104.1), (10, .int .i64 y104.2), (37, .slice A27 j24.length n28), (38, .int .i64 (j24.length : Int)), (39, .int .i64 s51.2.2)]) (by kernel_rfl) ?_
                refine gl_atE (by kernel_rfl) ?_
                refine ge_seq ?_
                refine gk_seq (by kernel_rfl) ?_
                refine gk_seq (by kernel_rfl) ?_
                refine gk_region (by kernel_rfl) ?_
                refine gl_pure 2 [0, 5, 6, 9, 37, 38, 39, 56] (K' := [(0, .slice A27 j24.length n28), (5, .pointer (some ⟨g38, 0, none⟩)), (6, .int .i64 s51.2.2), (9, .string y104.1), (37, .slice A27 j24.length n28), (38, .int .i64 (j24.length : Int)), (39, .int .i64 s51.2.2), (56, .bool (y104.2 != 0))]) (by kernel_rfl) ?_
                refine gl_atE (by kernel_rfl) ?_
                refine ge_seq ?_
                refine gk_cond (b := (y104.2 != 0)) (by kernel_rfl) (by kernel_rfl) (fun hc106 => ?_) (fun hc106 => ?_)
                · have hj98 := cond_t hc106 hj98
                  refine gk_seq (by kernel_rfl) ?_
                  refine gk_region (by kernel_rfl) ?_
                  refine gl_pure 2 [2, 3] (K' := [(2, .string (⟨#[]⟩ : ByteArray)), (3, .int .i64 130)]) (by kernel_rfl) ?_
                  refine gl_atE (by kernel_rfl) ?_
                  refine ge_seq ?_
                  refine gk_reord (D := L) (Reord.skip (Reord.skipC (Reord.skip (Reord.refl _)))) ?_
                  refine gk_ret (by kernel_rfl) ?_
                  refine ge_seq_ret ?_
                  refine ge_seq_ret ?_
                  obtain rfl := some_inj hj98
                  refine ge_block_ret ?_
                  refine ge_seq_ret ?_
                  refine ge_block_ret ?_
                  refine ge_seq_ret ?_
                  obtain rfl := some_inj hj77
                  refine ge_seq_ret ?_
                  obtain rfl := some_inj hb53
                  refine ge_round_out (fun hrr => ?_) (by intro h; cases h)
                  obtain rfl := hrr
                  refine ge_block_ret ?_
                  refine ge_seq_ret ?_
                  refine ge_seq_ret ?_
                  obtain rfl := some_inj hr
                  exact ge_result trivial (ResOk.tmp (by kernel_rfl) (ResOk.tmp (by kernel_rfl) ResOk.nil)) (Imm.trans (Imm.trans hI3 hI26) hI54) ⟨rfl, rfl⟩
                · have hj98 := cond_f hc106 hj98
                  refine gk_skip (by kernel_rfl) ?_
                  refine ge_seq ?_
                  refine gk_region (by kernel_rfl) ?_
                  refine gl_pure 2 [0, 5, 6, 8, 37, 38, 39] (K' := [(0, .slice A27 j24.length n28), (5, .pointer (some ⟨g38, 0, none⟩)), (6, .int .i64 s51.2.2), (8, .string y104.1), (37, .slice A27 j24.length n28), (38, .int .i64 (j24.length : Int)), (39, .int .i64 s51.2.2)]) (by kernel_rfl) ?_
                  refine gl_reord (D := C59 ++ ((g38, .cells #[.pointer q55, .slice A57 s51.2.1.length n58] 51) :: L)) (Reord.step (Upd.one _ (Upd.rmC _ _)) (Reord.step1 (Upd.one _ (Upd.rm1 _ _)) (Reord.skip (Reord.refl _)))) ?_
                  refine gl_atE (by kernel_rfl) ?_
                  obtain rfl := some_inj hj98
                  exact ge_mid fun t ht => ⟨_, rfl, (Imm.refl _), rfl, ht.pick (l := [0, 5, 6, 8, 37, 38, 39]) (by kernel_rfl)⟩
              · have hj98 := cond_f hc103 hj98
                refine gk_seq (by kernel_rfl) ?_
                refine gk_seq (by kernel_rfl) ?_
                refine gk_region (by kernel_rfl) ?_
                refine gl_pure 2 [0, 5, 6, 7, 8, 37, 38, 39, 47, 58] (K' := [(0, .slice A27 j24.length n28), (5, .pointer (some ⟨g38, 0, none⟩)), (6, .int .i64 s51.2.2), (7, .pointer (some ⟨g96, 0, none⟩)), (8, .string x88.f1), (37, .slice A27 j24.length n28), (38, .int .i64 (j24.length : Int)), (39, .int .i64 s51.2.2), (47, .int .i64 x88.f0), (58, .bool (x88.f0 == 1))]) (by kernel_rfl) ?_
                refine gl_atE (by kernel_rfl) ?_
                refine ge_seq ?_
                obtain ⟨j107, hj108, hj98⟩ := bind_some hj98
                refine gk_join (fun t I' L' => I62 ≤ I' ∧ (g96, .cells #[.int .i64 x88.f0, .string x88.f1, .int .i64 x88.f2] 28) :: (C59 ++ ((g38, .cells #[.pointer q55, .slice A57 s51.2.1.length n58] 51) :: L)) = L' ∧ Knows 85 [(0, .slice A27 j24.length n28), (5, .pointer (some ⟨g38, 0, none⟩)), (6, .int .i64 s51.2.2), (7, .pointer (some ⟨g96, 0, none⟩)), (8, .string x88.f1), (37, .slice A27 j24.length n28), (38, .int .i64 (j24.length : Int)), (39, .int .i64 s51.2.2), (58, .bool j107)] t) ?_ ?_
                · refine gk_cond (b := (x88.f0 == 1)) (by kernel_rfl) (by kernel_rfl) (fun hc112 => ?_) (fun hc112 => ?_)
                  · have hj108 := cond_t hc112 hj108
                    refine gk_skip (by kernel_rfl) ?_
                    obtain rfl := some_inj hj108
                    exact ge_mid fun t ht => ⟨(Imm.refl _), rfl, ht.pick (l := [0, 5, 6, 7, 8, 37, 38, 39, 58]) (by kernel_rfl)⟩
                  · have hj108 := cond_f hc112 hj108
                    refine gk_seq (by kernel_rfl) ?_
                    refine gk_region (by kernel_rfl) ?_
                    refine gl_pure 2 [0, 5, 6, 7, 8, 37, 38, 39, 47, 58] (K' := [(0, .slice A27 j24.length n28), (5, .pointer (some ⟨g38, 0, none⟩)), (6, .int .i64 s51.2.2), (7, .pointer (some ⟨g96, 0, none⟩)), (8, .string x88.f1), (37, .slice A27 j24.length n28), (38, .int .i64 (j24.length : Int)), (39, .int .i64 s51.2.2), (47, .int .i64 x88.f0), (58, .bool (x88.f0 == 2))]) (by kernel_rfl) ?_
                    refine gl_atE (by kernel_rfl) ?_
                    refine ge_seq ?_
                    obtain ⟨j113, hj114, hj108⟩ := bind_some hj108
                    refine gk_join (fun t I' L' => I62 ≤ I' ∧ (g96, .cells #[.int .i64 x88.f0, .string x88.f1, .int .i64 x88.f2] 28) :: (C59 ++ ((g38, .cells #[.pointer q55, .slice A57 s51.2.1.length n58] 51) :: L)) = L' ∧ Knows 85 [(0, .slice A27 j24.length n28), (5, .pointer (some ⟨g38, 0, none⟩)), (6, .int .i64 s51.2.2), (7, .pointer (some ⟨g96, 0, none⟩)), (8, .string x88.f1), (37, .slice A27 j24.length n28), (38, .int .i64 (j24.length : Int)), (39, .int .i64 s51.2.2), (58, .bool j113)] t) ?_ ?_
                    · refine gk_cond (b := (x88.f0 == 2)) (by kernel_rfl) (by kernel_rfl) (fun hc118 => ?_) (fun hc118 => ?_)
                      · have hj114 := cond_t hc118 hj114
                        refine gk_skip (by kernel_rfl) ?_
                        obtain rfl := some_inj hj114
                        exact ge_mid fun t ht => ⟨(Imm.refl _), rfl, ht.pick (l := [0, 5, 6, 7, 8, 37, 38, 39, 58]) (by kernel_rfl)⟩
                      · have hj114 := cond_f hc118 hj114
                        refine gk_seq (by kernel_rfl) ?_
                        refine gk_region (by kernel_rfl) ?_
                        refine gl_pure 2 [0, 5, 6, 7, 8, 37, 38, 39, 47, 58] (K' := [(0, .slice A27 j24.length n28), (5, .pointer (some ⟨g38, 0, none⟩)), (6, .int .i64 s51.2.2), (7, .pointer (some ⟨g96, 0, none⟩)), (8, .string x88.f1), (37, .slice A27 j24.length n28), (38, .int .i64 (j24.length : Int)), (39, .int .i64 s51.2.2), (47, .int .i64 x88.f0), (58, .bool (x88.f0 == 3))]) (by kernel_rfl) ?_
                        refine gl_atE (by kernel_rfl) ?_
                        refine ge_seq ?_
                        obtain ⟨j119, hj120, hj114⟩ := bind_some hj114
                        refine gk_join (fun t I' L' => I62 ≤ I' ∧ (g96, .cells #[.int .i64 x88.f0, .string x88.f1, .int .i64 x88.f2] 28) :: (C59 ++ ((g38, .cells #[.pointer q55, .slice A57 s51.2.1.length n58] 51) :: L)) = L' ∧ Knows 85 [(0, .slice A27 j24.length n28), (5, .pointer (some ⟨g38, 0, none⟩)), (6, .int .i64 s51.2.2), (7, .pointer (some ⟨g96, 0, none⟩)), (8, .string x88.f1), (37, .slice A27 j24.length n28), (38, .int .i64 (j24.length : Int)), (39, .int .i64 s51.2.2), (58, .bool j119)] t) ?_ ?_
                        · refine gk_cond (b := (x88.f0 == 3)) (by kernel_rfl) (by kernel_rfl) (fun hc124 => ?_) (fun hc124 => ?_)
                          · have hj120 := cond_t hc124 hj120
                            refine gk_skip (by kernel_rfl) ?_
                            obtain rfl := some_inj hj120
                            exact ge_mid fun t ht => ⟨(Imm.refl _), rfl, ht.pick (l := [0, 5, 6, 7, 8, 37, 38, 39, 58]) (by kernel_rfl)⟩
                          · have hj120 := cond_f hc124 hj120
                            refine gk_region (by kernel_rfl) ?_
                            refine gl_pure 2 [0, 5, 6, 7, 8, 37, 38, 39, 58] (K' := [(0, .slice A27 j24.length n28), (5, .pointer (some ⟨g38, 0, none⟩)), (6, .int .i64 s51.2.2), (7, .pointer (some ⟨g96, 0, none⟩)), (8, .string x88.f1), (37, .slice A27 j24.length n28), (38, .int .i64 (j24.length : Int)), (39, .int .i64 s51.2.2), (58, .bool (x88.f0 == 5))]) (by kernel_rfl) ?_
                            refine gl_atE (by kernel_rfl) ?_
                            obtain rfl := some_inj hj120
                            exact ge_mid fun t ht => ⟨(Imm.refl _), rfl, ht.pick (l := [0, 5, 6, 7, 8, 37, 38, 39, 58]) (by kernel_rfl)⟩
                        · rintro t I123 L' ⟨hI121, rfl, hK122⟩
                          refine ge_at hK122 ?_
                          obtain rfl := some_inj hj114
                          exact ge_mid fun t ht => ⟨hI121, rfl, ht.pick (l := [0, 5, 6, 7, 8, 37, 38, 39, 58]) (by kernel_rfl)⟩
                    · rintro t I117 L' ⟨hI115, rfl, hK116⟩
                      refine ge_at hK116 ?_
                      obtain rfl := some_inj hj108
                      exact ge_mid fun t ht => ⟨hI115, rfl, ht.pick (l := [0, 5, 6, 7, 8, 37, 38, 39, 58]) (by kernel_rfl)⟩
                · rintro t I111 L' ⟨hI109, rfl, hK110⟩
                  refine ge_at hK110 ?_
                  refine ge_seq ?_
                  refine gk_cond (b := j107) (by kernel_rfl) (by kernel_rfl) (fun hc125 => ?_) (fun hc125 => ?_)
                  · have hj98 := cond_t hc125 hj98
                    refine gk_seq (by kernel_rfl) ?_
                    refine gk_region (by kernel_rfl) ?_
                    refine gl_pure 2 [0, 5, 6, 8, 37, 38, 39, 63, 64] (K' := [(0, .slice A27 j24.length n28), (5, .pointer (some ⟨g38, 0, none⟩)), (6, .int .i64 s51.2.2), (8, .string x88.f1), (37, .slice A27 j24.length n28), (38, .int .i64 (j24.length : Int)), (39, .int .i64 s51.2.2), (63, .string x88.f1), (64, .pointer (some ⟨g96, 0, none⟩))]) (by kernel_rfl) ?_
                    refine gl_loadB (T' := 3) (xp := (.tmp 64)) (v := .int .i64 x88.f0) (g := g96) (off := 0) (cs := #[.int .i64 x88.f0, .string x88.f1, .int .i64 x88.f2]) (e := 28) (fz := (0, 0)) (by kernel_rfl) (by kernel_rfl) (by kernel_rfl) List.mem_cons_self (by kernel_rfl) ?_
                    obtain ⟨y126, hx127, hj98⟩ := bind_some hj98
                    refine gl_callQ (by kernel_rfl) (lex_alone_walk (r := y126) (hG.mono (Imm.trans (Imm.trans (Imm.trans hI3 hI26) hI54) hI109)) hx127 _) ?_
                    refine gl_pure 1 [0, 5, 6, 8, 37, 38, 39, 67] (K' := [(0, .slice A27 j24.length n28), (5, .pointer (some ⟨g38, 0, none⟩)), (6, .int .i64 s51.2.2), (8, .string x88.f1), (37, .slice A27 j24.length n28), (38, .int .i64 (j24.length : Int)), (39, .int .i64 s51.2.2), (67, .bool (!y126))]) (by kernel_rfl) ?_
                    refine gl_atE (by kernel_rfl) ?_
                    refine ge_seq ?_
                    refine gk_cond (b := (!y126)) (by kernel_rfl) (by kernel_rfl) (fun hc128 => ?_) (fun hc128 => ?_)
                    · have hj98 := cond_t hc128 hj98
                      refine gk_seq (by kernel_rfl) ?_
                      refine gk_region (by kernel_rfl) ?_
                      refine gl_pure 2 [2, 3] (K' := [(2, .string (⟨#[]⟩ : ByteArray)), (3, .int .i64 130)]) (by kernel_rfl) ?_
                      refine gl_atE (by kernel_rfl) ?_
                      refine ge_seq ?_
                      refine gk_reord (D := L) (Reord.skip (Reord.skipC (Reord.skip (Reord.refl _)))) ?_
                      refine gk_ret (by kernel_rfl) ?_
                      refine ge_seq_ret ?_
                      obtain rfl := some_inj hj98
                      refine ge_block_ret ?_
                      refine ge_seq_ret ?_
                      refine ge_block_ret ?_
                      refine ge_seq_ret ?_
                      obtain rfl := some_inj hj77
                      refine ge_seq_ret ?_
                      obtain rfl := some_inj hb53
                      refine ge_round_out (fun hrr => ?_) (by intro h; cases h)
                      obtain rfl := hrr
                      refine ge_block_ret ?_
                      refine ge_seq_ret ?_
                      refine ge_seq_ret ?_
                      obtain rfl := some_inj hr
                      exact ge_result trivial (ResOk.tmp (by kernel_rfl) (ResOk.tmp (by kernel_rfl) ResOk.nil)) (Imm.trans (Imm.trans (Imm.trans hI3 hI26) hI54) hI109) ⟨rfl, rfl⟩
                    · have hj98 := cond_f hc128 hj98
                      refine gk_reord (D := C59 ++ ((g38, .cells #[.pointer q55, .slice A57 s51.2.1.length n58] 51) :: L)) (Reord.step (Upd.one _ (Upd.rmC _ _)) (Reord.step1 (Upd.one _ (Upd.rm1 _ _)) (Reord.skip (Reord.refl _)))) ?_
                      refine gk_skip (by kernel_rfl) ?_
                      obtain rfl := some_inj hj98
                      exact ge_mid fun t ht => ⟨_, rfl, hI109, rfl, ht.pick (l := [0, 5, 6, 8, 37, 38, 39]) (by kernel_rfl)⟩
                  · have hj98 := cond_f hc125 hj98
                    refine gk_seq (by kernel_rfl) ?_
                    refine gk_region (by kernel_rfl) ?_
                    refine gl_pure 2 [2, 3] (K' := [(2, .string (⟨#[]⟩ : ByteArray)), (3, .int .i64 130)]) (by kernel_rfl) ?_
                    refine gl_atE (by kernel_rfl) ?_
                    refine ge_seq ?_
                    refine gk_reord (D := L) (Reord.skip (Reord.skipC (Reord.skip (Reord.refl _)))) ?_
                    refine gk_ret (by kernel_rfl) ?_
                    refine ge_seq_ret ?_
                    obtain rfl := some_inj hj98
                    refine ge_block_ret ?_
                    refine ge_seq_ret ?_
                    refine ge_block_ret ?_
                    refine ge_seq_ret ?_
                    obtain rfl := some_inj hj77
                    refine ge_seq_ret ?_
                    obtain rfl := some_inj hb53
                    refine ge_round_out (fun hrr => ?_) (by intro h; cases h)
                    obtain rfl := hrr
                    refine ge_block_ret ?_
                    refine ge_seq_ret ?_
                    refine ge_seq_ret ?_
                    obtain rfl := some_inj hr
                    exact ge_result trivial (ResOk.tmp (by kernel_rfl) (ResOk.tmp (by kernel_rfl) ResOk.nil)) (Imm.trans (Imm.trans (Imm.trans hI3 hI26) hI54) hI109) ⟨rfl, rfl⟩
            · rintro t I102 L' ⟨j99, rfl, hI100, rfl, hK101⟩
              refine ge_at hK101 ?_
              refine ge_block_normal ?_
              refine ge_seq ?_
              refine gk_seq (by kernel_rfl) ?_
              refine gk_seq (by kernel_rfl) ?_
              refine gk_region (by kernel_rfl) ?_
              refine gl_reord (D := (g38, .cells #[.pointer q55, .slice A57 s51.2.1.length n58] 51) :: (C59 ++ L)) (Reord.step1 (Upd.app _ (Upd.rm1 _ _)) (Reord.step (Upd.rmC _ _) (Reord.refl _))) ?_
              refine gl_call (by kernel_rfl) (strings_Builder_Len_walk (r := (strings_Builder_Len (⟨s51.2.1⟩ : S50))) (g0 := g38) (q0_0 := q55) (A0_1 := A57) (c0_1 := n58) (C0_1 := C59) (a0 := (⟨s51.2.1⟩ : S50)) hq56 (hO60.mono hI100) rfl _) ?_
              rintro v I129 L130 hI131 ⟨rfl, rfl⟩
              refine gl_pure 1 [0, 5, 6, 8, 37, 38, 39, 69] (K' := [(0, .slice A27 j24.length n28), (5, .pointer (some ⟨g38, 0, none⟩)), (6, .int .i64 s51.2.2), (8, .string j99), (37, .slice A27 j24.length n28), (38, .int .i64 (j24.length : Int)), (39, .int .i64 s51.2.2), (69, .bool (decide ((strings_Builder_Len (⟨s51.2.1⟩ : S50)) > 65536)))]) (by kernel_rfl) ?_
              refine gl_atE (by kernel_rfl) ?_
              refine ge_seq ?_
              refine gk_cond (b := (decide ((strings_Builder_Len (⟨s51.2.1⟩ : S50)) > 65536))) (by kernel_rfl) (by kernel_rfl) (fun hc132 => ?_) (fun hc132 => ?_)
              · have hj77 := cond_t hc132 hj77
                refine gk_reord (D := C59 ++ ((g38, .cells #[.pointer q55, .slice A57 s51.2.1.length n58] 51) :: L)) (Reord.step (Upd.one _ (Upd.rmC _ _)) (Reord.step1 (Upd.rm1 _ _) (Reord.refl _))) ?_
                refine gk_exit (by kernel_rfl) ?_
                refine ge_seq_exit ?_
                refine ge_block_hit (by kernel_rfl) ?_
                obtain rfl := some_inj hj77
                exact ge_mid fun t ht => ⟨_, rfl, q55, A57, n58, C59, hq56, (hO60.mono (Imm.trans hI100 hI131)), (Imm.trans hI100 hI131), rfl, ht.pick (l := [0, 5, 37, 38, 39]) (by kernel_rfl)⟩
              · have hj77 := cond_f hc132 hj77
                refine gk_skip (by kernel_rfl) ?_
                refine ge_seq ?_
                refine gk_seq (by kernel_rfl) ?_
                refine gk_seq (by kernel_rfl) ?_
                refine gk_region (by kernel_rfl) ?_
                refine gl_pure 2 [0, 5, 8, 37, 38, 39, 71] (K' := [(0, .slice A27 j24.length n28), (5, .pointer (some ⟨g38, 0, none⟩)), (8, .string j99), (37, .slice A27 j24.length n28), (38, .int .i64 (j24.length : Int)), (39, .int .i64 s51.2.2), (71, .bool (decide (s51.2.2 > 0)))]) (by kernel_rfl) ?_
                refine gl_atE (by kernel_rfl) ?_
                refine ge_seq ?_
                obtain ⟨j133, hj134, hj77⟩ := bind_some hj77
                refine gk_join (fun t I' L' => ∃ q136 A138 n139 C140, (q136 = none ∨ q136 = some (⟨g38, 0, none⟩ : Addr)) ∧ OwnS (Kd.int .u8) 5 I' A138 n139 j133.2 C140 ∧ I129 ≤ I' ∧ C140 ++ ((g38, .cells #[.pointer q136, .slice A138 j133.2.length n139] 51) :: L) = L' ∧ Knows 85 [(0, .slice A27 j24.length n28), (5, .pointer (some ⟨g38, 0, none⟩)), (8, .string j99), (37, .slice A27 j24.length n28), (38, .int .i64 (j24.length : Int)), (39, .int .i64 s51.2.2)] t) ?_ ?_
                · refine gk_cond (b := (decide (s51.2.2 > 0))) (by kernel_rfl) (by kernel_rfl) (fun hc144 => ?_) (fun hc144 => ?_)
                  · have hj134 := cond_t hc144 hj134
                    refine gk_region (by kernel_rfl) ?_
                    obtain ⟨y145, hx146, hj134⟩ := bind_some hj134
                    refine gl_call (by kernel_rfl) (strings_Builder_WriteByte_walk (r := y145) (g0 := g38) (q0_0 := q55) (A0_1 := A57) (c0_1 := n58) (C0_1 := C59) (a0 := (⟨s51.2.1⟩ : S50)) hq56 (hO60.mono (Imm.trans hI100 hI131)) hx146 _) ?_
                    rintro v I147 L148 hI149 ⟨z150, A151, c152, C153, hO154, hO155, rfl, rfl⟩
                    refine gl_reord (D := C153 ++ ((g38, .cells #[.pointer z150, .slice A151 y145.2.f1.length c152] 51) :: L)) (Reord.step (Upd.one _ (Upd.rmC _ _)) (Reord.step1 (Upd.rm1 _ _) (Reord.refl _))) ?_
                    refine gl_atE (by kernel_rfl) ?_
                    obtain rfl := some_inj hj134
                    exact ge_mid fun t ht => ⟨z150, A151, c152, C153, hO154, hO155, hI149, rfl, ht.pick (l := [0, 5, 8, 37, 38, 39]) (by kernel_rfl)⟩
                  · have hj134 := cond_f hc144 hj134
                    refine gk_reord (D := C59 ++ ((g38, .cells #[.pointer q55, .slice A57 s51.2.1.length n58] 51) :: L)) (Reord.step (Upd.one _ (Upd.rmC _ _)) (Reord.step1 (Upd.rm1 _ _) (Reord.refl _))) ?_
                    refine gk_skip (by kernel_rfl) ?_
                    obtain rfl := some_inj hj134
                    exact ge_mid fun t ht => ⟨q55, A57, n58, C59, hq56, (hO60.mono (Imm.trans hI100 hI131)), (Imm.refl _), rfl, ht.pick (l := [0, 5, 8, 37, 38, 39]) (by kernel_rfl)⟩
                · rintro t I143 L' ⟨q136, A138, n139, C140, hq137, hO141, hI135, rfl, hK142⟩
                  refine ge_at hK142 ?_
                  refine ge_seq ?_
                  refine gk_region (by kernel_rfl) ?_
                  refine gl_pure 1 [0, 5, 37, 38, 39, 73] (K' := [(0, .slice A27 j24.length n28), (5, .pointer (some ⟨g38, 0, none⟩)), (37, .slice A27 j24.length n28), (38, .int .i64 (j24.length : Int)), (39, .int .i64 s51.2.2), (73, .string j99)]) (by kernel_rfl) ?_
                  obtain ⟨y156, hx157, hj77⟩ := bind_some hj77
                  refine gl_reord (D := (g38, .cells #[.pointer q136, .slice A138 j133.2.length n139] 51) :: (C140 ++ L)) (Reord.step1 (Upd.app _ (Upd.rm1 _ _)) (Reord.step (Upd.rmC _ _) (Reord.refl _))) ?_
                  refine gl_call (by kernel_rfl) (strings_Builder_WriteString_walk (r := y156) (g0 := g38) (q0_0 := q136) (A0_1 := A138) (c0_1 := n139) (C0_1 := C140) (a0 := (⟨j133.2⟩ : S50)) hq137 hO141 hx157 _) ?_
                  rintro v I158 L159 hI160 ⟨z161, A162, c163, C164, hO165, hO166, rfl, rfl⟩
                  refine gl_reord (D := C164 ++ ((g38, .cells #[.pointer z161, .slice A162 y156.2.2.f1.length c163] 51) :: L)) (Reord.step (Upd.one _ (Upd.rmC _ _)) (Reord.step1 (Upd.rm1 _ _) (Reord.refl _))) ?_
                  refine gl_atE (by kernel_rfl) ?_
                  refine ge_block_normal ?_
                  obtain rfl := some_inj hj77
                  exact ge_mid fun t ht => ⟨_, rfl, z161, A162, c163, C164, hO165, hO166, (Imm.trans (Imm.trans (Imm.trans hI100 hI131) hI135) hI160), rfl, ht.pick (l := [0, 5, 37, 38, 39]) (by kernel_rfl)⟩
          · rintro t I87 L' ⟨j78, rfl, q80, A82, n83, C84, hq81, hO85, hI79, rfl, hK86⟩
            refine ge_at hK86 ?_
            refine ge_seq ?_
            refine gk_region (by kernel_rfl) ?_
            refine gl_pure 2 [0, 5, 37, 38, 39] (K' := [(0, .slice A27 j24.length n28), (5, .pointer (some ⟨g38, 0, none⟩)), (37, .slice A27 j24.length n28), (38, .int .i64 (j24.length : Int)), (39, .int .i64 (IntKind.wrap .i64 (s51.2.2 + 1)))]) (by kernel_rfl) ?_
            refine gl_atE (by kernel_rfl) ?_
            obtain rfl := some_inj hb53
            exact ge_round fun t ht => ⟨q80, A82, n83, C84, hq81, hO85, (Imm.trans hI54 hI79), rfl, ht.pick (l := [0, 5, 37, 38, 39]) (by kernel_rfl)⟩
        · have hb53 := cond_f hc75 hb53
          refine gk_exit (by kernel_rfl) ?_
          refine ge_seq_exit ?_
          obtain rfl := some_inj hb53
          refine ge_round_out (fun hrr => ?_) (by intro h; cases h)
          obtain rfl := hrr
          refine ge_block_hit (by kernel_rfl) ?_
          exact ge_mid fun t ht => ⟨_, rfl, q55, A57, n58, C59, hq56, hO60, hI54, rfl, ht.pick (l := [0, 5]) (by kernel_rfl)⟩
      · rintro t I72 L' ⟨r63, rfl, q65, A67, n68, C69, hq66, hO70, hI64, rfl, hK71⟩
        refine ge_at hK71 ?_
        refine ge_seq ?_
        refine gk_seq (by kernel_rfl) ?_
        refine gk_block (by kernel_rfl) ?_
        refine gk_seq (by kernel_rfl) ?_
        refine gk_region (by kernel_rfl) ?_
        refine gl_reord (D := (g38, .cells #[.pointer q65, .slice A67 r63.2.length n68] 51) :: (C69 ++ L)) (Reord.step1 (Upd.app _ (Upd.rm1 _ _)) (Reord.step (Upd.rmC _ _) (Reord.refl _))) ?_
        refine gl_call (by kernel_rfl) (strings_Builder_Len_walk (r := (strings_Builder_Len (⟨r63.2⟩ : S50))) (g0 := g38) (q0_0 := q65) (A0_1 := A67) (c0_1 := n68) (C0_1 := C69) (a0 := (⟨r63.2⟩ : S50)) hq66 hO70 rfl _) ?_
        rintro v I169 L170 hI171 ⟨rfl, rfl⟩
        refine gl_pure 2 [0, 5, 76] (K' := [(0, .slice A27 j24.length n28), (5, .pointer (some ⟨g38, 0, none⟩)), (76, .bool (decide ((strings_Builder_Len (⟨r63.2⟩ : S50)) > 65536)))]) (by kernel_rfl) ?_
        refine gl_atE (by kernel_rfl) ?_
        refine ge_seq ?_
        refine gk_cond (b := (decide ((strings_Builder_Len (⟨r63.2⟩ : S50)) > 65536))) (by kernel_rfl) (by kernel_rfl) (fun hc172 => ?_) (fun hc172 => ?_)
        · have hr := cond_t hc172 hr
          refine gk_seq (by kernel_rfl) ?_
          refine gk_region (by kernel_rfl) ?_
          refine gl_pure 2 [2, 3] (K' := [(2, .string (⟨#[]⟩ : ByteArray)), (3, .int .i64 4)]) (by kernel_rfl) ?_
          refine gl_atE (by kernel_rfl) ?_
          refine ge_seq ?_
          refine gk_reord (D := L) (Reord.skip (Reord.skipC (Reord.refl _))) ?_
          refine gk_ret (by kernel_rfl) ?_
          refine ge_block_ret ?_
          refine ge_seq_ret ?_
          obtain rfl := some_inj hr
          exact ge_result trivial (ResOk.tmp (by kernel_rfl) (ResOk.tmp (by kernel_rfl) ResOk.nil)) (Imm.trans (Imm.trans (Imm.trans hI3 hI26) hI64) hI171) ⟨rfl, rfl⟩
        · have hr := cond_f hc172 hr
          refine gk_seq (by kernel_rfl) ?_
          refine gk_region (by kernel_rfl) ?_
          refine gl_pure 5 [5, 79] (K' := [(5, .pointer (some ⟨g38, 0, none⟩)), (79, .bool (decide ((IntKind.wrap .i64 ((j24.length : Int) + 1)) > 4096)))]) (by kernel_rfl) ?_
          refine gl_atE (by kernel_rfl) ?_
          refine ge_seq ?_
          refine gk_cond (b := (decide ((IntKind.wrap .i64 ((j24.length : Int) + 1)) > 4096))) (by kernel_rfl) (by kernel_rfl) (fun hc173 => ?_) (fun hc173 => ?_)
          · have hr := cond_t hc173 hr
            refine gk_seq (by kernel_rfl) ?_
            refine gk_region (by kernel_rfl) ?_
            refine gl_pure 2 [2, 3] (K' := [(2, .string (⟨#[]⟩ : ByteArray)), (3, .int .i64 7)]) (by kernel_rfl) ?_
            refine gl_atE (by kernel_rfl) ?_
            refine ge_seq ?_
            refine gk_reord (D := L) (Reord.skip (Reord.skipC (Reord.refl _))) ?_
            refine gk_ret (by kernel_rfl) ?_
            refine ge_block_ret ?_
            refine ge_seq_ret ?_
            obtain rfl := some_inj hr
            exact ge_result trivial (ResOk.tmp (by kernel_rfl) (ResOk.tmp (by kernel_rfl) ResOk.nil)) (Imm.trans (Imm.trans (Imm.trans hI3 hI26) hI64) hI171) ⟨rfl, rfl⟩
          · have hr := cond_f hc173 hr
            refine gk_skip (by kernel_rfl) ?_
            refine ge_block_normal ?_
            refine ge_seq ?_
            refine gk_seq (by kernel_rfl) ?_
            refine gk_region (by kernel_rfl) ?_
            obtain ⟨y174, hx175, hr⟩ := bind_some hr
            refine gl_call (by kernel_rfl) (strings_Builder_String_walk (r := y174) (g0 := g38) (q0_0 := q65) (A0_1 := A67) (c0_1 := n68) (C0_1 := C69) (a0 := (⟨r63.2⟩ : S50)) hq66 (hO70.mono hI171) hx175 _) ?_
            rintro v I176 L177 hI178 ⟨rfl, rfl⟩
            refine gl_pure 2 [2, 3] (K' := [(2, .string y174), (3, .int .i64 0)]) (by kernel_rfl) ?_
            refine gl_atE (by kernel_rfl) ?_
            refine ge_seq ?_
            refine gk_ret (by kernel_rfl) ?_
            obtain rfl := some_inj hr
            exact ge_result trivial (ResOk.tmp (by kernel_rfl) (ResOk.tmp (by kernel_rfl) ResOk.nil)) (Imm.trans (Imm.trans (Imm.trans (Imm.trans hI3 hI26) hI64) hI171) hI178) ⟨rfl, rfl⟩
/-! 31 tocsinref01_Utf8  -/
noncomputable def tocsinref01_Utf8_l79 (a0 : ByteArray) (s7 : Int) (j37 : Int × Int × Int) : (Int × Int) → Option ((Int × Int) ⊕ ((Int) ⊕ ((Int) ⊕ ((Int) ⊕ ((Unit) ⊕ (Bool)))))) := fun s69 =>
  bif (decide (s69.2 ≤ j37.1)) then
  (Option.bind (bif (decide ((IntKind.wrap .i64 (s7 + s69.2)) ≥ (a0.size : Int))) then
      (some true)
      else
      (Option.bind (bx a0 (IntKind.wrap .i64 (s7 + s69.2))) fun (c88 : Int) =>
        some ((bitAnd .u8 c88 192) != 128))) fun (j82 : Bool) =>
    bif j82 then
    (some (Sum.inr (Sum.inr (Sum.inr (Sum.inr (Sum.inr false))))))
    else
    (Option.bind (bx a0 (IntKind.wrap .i64 (s7 + s69.2))) fun (c91 : Int) =>
      some (Sum.inl ((IntKind.wrap .i64 ((IntKind.wrap .i64 (s69.1 * 64)) + (IntKind.wrap .i64 (bitAnd .u8 c91 63)))), (IntKind.wrap .i64 (s69.2 + 1))))))
  else
  (some (Sum.inr (Sum.inl s69.1)))
noncomputable def tocsinref01_Utf8_l17 (a0 : ByteArray) : Int → Option ((Int) ⊕ ((Unit) ⊕ (Bool))) := fun s7 =>
  bif (decide (s7 < (a0.size : Int))) then
  (Option.bind ((Option.bind (bx a0 s7) fun (c26 : Int) =>
      bif (decide ((IntKind.wrap .i64 c26) < 128)) then
      (some (Sum.inl (IntKind.wrap .i64 (s7 + 1))))
      else
      (Option.bind ((bif ((decide ((IntKind.wrap .i64 c26) ≥ 194)) && (decide ((IntKind.wrap .i64 c26) < 224))) then
          (some (Sum.inl (1, 128, (bitAnd .i64 (IntKind.wrap .i64 c26) 31))))
          else
          (Option.bind ((bif ((decide ((IntKind.wrap .i64 c26) ≥ 224)) && (decide ((IntKind.wrap .i64 c26) < 240))) then
              (some (Sum.inl (2, 2048, (bitAnd .i64 (IntKind.wrap .i64 c26) 15))))
              else
              (bif ((decide ((IntKind.wrap .i64 c26) ≥ 240)) && (decide ((IntKind.wrap .i64 c26) < 245))) then
                (some (Sum.inl (3, 65536, (bitAnd .i64 (IntKind.wrap .i64 c26) 7))))
                else
                (some (Sum.inr (Sum.inr (Sum.inr (Sum.inr (Sum.inr false))))))) : Option ((Int × Int × Int) ⊕ ((Int × Int × Int) ⊕ ((Int) ⊕ ((Int) ⊕ ((Unit) ⊕ (Bool)))))))) fun (j48 : (Int × Int × Int) ⊕ ((Int × Int × Int) ⊕ ((Int) ⊕ ((Int) ⊕ ((Unit) ⊕ (Bool)))))) =>
            match j48 with
            | Sum.inl j50 => some (Sum.inl (j50.1, j50.2.1, j50.2.2))
            | Sum.inr v62 => some v62) : Option ((Int × Int × Int) ⊕ ((Int) ⊕ ((Int) ⊕ ((Unit) ⊕ (Bool))))))) fun (j35 : (Int × Int × Int) ⊕ ((Int) ⊕ ((Int) ⊕ ((Unit) ⊕ (Bool))))) =>
        match j35 with
        | Sum.inl j37 => Option.bind (loopO (tocsinref01_Utf8_l79 a0 s7 j37) (j37.2.2, 1)) fun (r67 : (Int) ⊕ ((Int) ⊕ ((Int) ⊕ ((Unit) ⊕ (Bool))))) =>
          match r67 with
          | Sum.inl r75 => bif (((decide (r75 < j37.2.1)) || (decide (r75 > 1114111))) || ((decide (r75 ≥ 55296)) && (decide (r75 < 57344)))) then
            (some (Sum.inr (Sum.inr (Sum.inr false))))
            else
            (some (Sum.inl (IntKind.wrap .i64 ((IntKind.wrap .i64 (s7 + j37.1)) + 1))))
          | Sum.inr v102 => some v102
        | Sum.inr v103 => some v103) : Option ((Int) ⊕ ((Int) ⊕ ((Unit) ⊕ (Bool)))))) fun (j20 : (Int) ⊕ ((Int) ⊕ ((Unit) ⊕ (Bool)))) =>
    match j20 with
    | Sum.inl j22 => some (Sum.inl j22)
    | Sum.inr v104 => some v104)
  else
  (some (Sum.inr (Sum.inl ())))
noncomputable def tocsinref01_Utf8 (a0 : ByteArray) : Option Bool :=
  Option.bind (loopO (tocsinref01_Utf8_l17 a0) 0) fun (r5 : (Unit) ⊕ (Bool)) =>
  match r5 with
  | Sum.inl r13 => some true
  | Sum.inr v105 => some v105
theorem tocsinref01_Utf8_walk {a0 : ByteArray} {I : Imm} {r : Bool}  (hr : tocsinref01_Utf8 a0 = some r) (L : Own) :
    CallsTo Tryd.prog 31 #[.string a0] I L (fun v I' L' => v = .bool r ∧ L = L') := by
  unfold tocsinref01_Utf8 at hr
  refine callsTo_body (N := 98) Tryd.func31 (by kernel_rfl) (by kernel_rfl) (by kernel_rfl) ?_
  refine gk_pick [0] (K' := [(0, .string a0)]) (by kernel_rfl) ?_
  refine gk_seq (by kernel_rfl) ?_
  refine gk_region (by kernel_rfl) ?_
  refine gl_pure 1 [0] (K' := [(0, .string a0)]) (by kernel_rfl) ?_
  refine gl_atE (by kernel_rfl) ?_
  refine ge_seq ?_
  refine gk_seq (by kernel_rfl) ?_
  refine gk_seq (by kernel_rfl) ?_
  refine gk_region (by kernel_rfl) ?_
  refine gl_pure 1 [0, 3] (K' := [(0, .string a0), (3, .int .i64 0)]) (by kernel_rfl) ?_
  refine gl_atE (by kernel_rfl) ?_
  refine ge_seq ?_
  obtain ⟨r5, hl6, hr⟩ := bind_some hr
  refine gk_join (fun t I' L' => ∃ r13, r5 = Sum.inl r13 ∧ I ≤ I' ∧ L = L' ∧ Knows 98 [] t) ?_ ?_
  · refine gk_block (by kernel_rfl) ?_
    refine gk_pick [0, 3] (K' := [(0, .string a0), (3, .int .i64 0)]) (by kernel_rfl) ?_
    intro t hK
    refine gc_loop (tocsinref01_Utf8_l17 a0) (fun s7 t I' L' => I ≤ I' ∧ L = L' ∧ Knows 98 [(0, .string a0), (3, .int .i64 s7)] t) (by kernel_rfl) ?_ hl6 ⟨(Imm.refl _), rfl, hK⟩
    rintro s7 o8 t I12 L' hb9 ⟨hI10, rfl, hK11⟩
    unfold tocsinref01_Utf8_l17 at hb9
    refine gk_at hK11 ?_
    refine gk_seq (by kernel_rfl) ?_
    refine gk_seq (by kernel_rfl) ?_
    refine gk_region (by kernel_rfl) ?_
    refine gl_pure 4 [0, 3, 12] (K' := [(0, .string a0), (3, .int .i64 s7), (12, .bool (decide (s7 < (a0.size : Int))))]) (by kernel_rfl) ?_
    refine gl_atE (by kernel_rfl) ?_
    refine ge_seq ?_
    refine gk_cond (b := (decide (s7 < (a0.size : Int)))) (by kernel_rfl) (by kernel_rfl) (fun hc19 => ?_) (fun hc19 => ?_)
    · have hb9 := cond_t hc19 hb9
      refine gk_skip (by kernel_rfl) ?_
      refine ge_seq ?_
      obtain ⟨j20, hj21, hb9⟩ := bind_some hb9
      refine gk_join (fun t I' L' => ∃ j22, j20 = Sum.inl j22 ∧ I12 ≤ I' ∧ L = L' ∧ Knows 98 [(0, .string a0), (3, .int .i64 j22)] t) ?_ ?_
      · refine gk_block (by kernel_rfl) ?_
        refine gk_seq (by kernel_rfl) ?_
        refine gk_region (by kernel_rfl) ?_
        refine gl_pure 2 [0, 3, 13, 14] (K' := [(0, .string a0), (3, .int .i64 s7), (13, .string a0), (14, .int .i64 s7)]) (by kernel_rfl) ?_
        obtain ⟨c26, hx27, hj21⟩ := bind_some hj21
        refine gl_index' (T' := 9) (xs := (.tmp 13)) (xi := (.tmp 14)) (kd := .i64) hx27 (by kernel_rfl) (by kernel_rfl) (by kernel_rfl) (by kernel_rfl) (by kernel_rfl) ?_
        refine gl_pure 2 [0, 3, 4] (K' := [(0, .string a0), (3, .int .i64 s7), (4, .int .i64 (IntKind.wrap .i64 c26))]) (by kernel_rfl) ?_
        refine gl_atE (by kernel_rfl) ?_
        refine ge_seq ?_
        refine gk_seq (by kernel_rfl) ?_
        refine gk_region (by kernel_rfl) ?_
        refine gl_pure 1 [0, 3, 4] (K' := [(0, .string a0), (3, .int .i64 s7), (4, .int .i64 (IntKind.wrap .i64 c26))]) (by kernel_rfl) ?_
        refine gl_atE (by kernel_rfl) ?_
        refine ge_seq ?_
        refine gk_seq (by kernel_rfl) ?_
        refine gk_region (by kernel_rfl) ?_
        refine gl_pure 1 [0, 3, 4] (K' := [(0, .string a0), (3, .int .i64 s7), (4, .int .i64 (IntKind.wrap .i64 c26))]) (by kernel_rfl) ?_
        refine gl_atE (by kernel_rfl) ?_
        refine ge_seq ?_
        refine gk_seq (by kernel_rfl) ?_
        refine gk_region (by kernel_rfl) ?_
        refine gl_pure 1 [0, 3, 4] (K' := [(0, .string a0), (3, .int .i64 s7), (4, .int .i64 (IntKind.wrap .i64 c26))]) (by kernel_rfl) ?_
        refine gl_atE (by kernel_rfl) ?_
        refine ge_seq ?_
        refine gk_seq (by kernel_rfl) ?_
        refine gk_block (by kernel_rfl) ?_
        refine gk_seq (by kernel_rfl) ?_
        refine gk_region (by kernel_rfl) ?_
        refine gl_pure 3 [0, 3, 4, 17] (K' := [(0, .string a0), (3, .int .i64 s7), (4, .int .i64 (IntKind.wrap .i64 c26)), (17, .bool (decide ((IntKind.wrap .i64 c26) < 128)))]) (by kernel_rfl) ?_
        refine gl_atE (by kernel_rfl) ?_
        refine ge_seq ?_
        refine gk_cond (b := (decide ((IntKind.wrap .i64 c26) < 128))) (by kernel_rfl) (by kernel_rfl) (fun hc28 => ?_) (fun hc28 => ?_)
        · have hj21 := cond_t hc28 hj21
          refine gk_seq (by kernel_rfl) ?_
          refine gk_region (by kernel_rfl) ?_
          refine gl_pure 3 [0, 3] (K' := [(0, .string a0), (3, .int .i64 (IntKind.wrap .i64 (s7 + 1)))]) (by kernel_rfl) ?_
          refine gl_atE (by kernel_rfl) ?_
          refine ge_seq ?_
          refine gk_exit (by kernel_rfl) ?_
          refine ge_block_miss (by kernel_rfl) ?_
          refine ge_seq_exit ?_
          refine ge_block_hit (by kernel_rfl) ?_
          obtain rfl := some_inj hj21
          exact ge_mid fun t ht => ⟨_, rfl, (Imm.refl _), rfl, ht.pick (l := [0, 3]) (by kernel_rfl)⟩
        · have hj21 := cond_f hc28 hj21
          refine gk_seq (by kernel_rfl) ?_
          obtain ⟨b31, hb32⟩ : ∃ z, z = ((decide ((IntKind.wrap .i64 c26) ≥ 194)) && (decide ((IntKind.wrap .i64 c26) < 224))) := ⟨_, rfl⟩
          refine gk_join (fun t I' L' => I12 ≤ I' ∧ L = L' ∧ Knows 98 [(0, .string a0), (3, .int .i64 s7), (4, .int .i64 (IntKind.wrap .i64 c26)), (22, .bool b31)] t) ?_ ?_
          · refine gk_region (by kernel_rfl) ?_
            refine gl_pure 3 [0, 3, 4, 25] (K' := [(0, .string a0), (3, .int .i64 s7), (4, .int .i64 (IntKind.wrap .i64 c26)), (25, .bool (decide ((IntKind.wrap .i64 c26) ≥ 194)))]) (by kernel_rfl) ?_
            refine gl_case 25 (b := (decide ((IntKind.wrap .i64 c26) ≥ 194))) (by kernel_rfl) (fun hc34 => ?_) (fun hc34 => ?_)
            · refine gl_pure 4 [0, 3, 4, 22] (K' := [(0, .string a0), (3, .int .i64 s7), (4, .int .i64 (IntKind.wrap .i64 c26)), (22, .bool (decide ((IntKind.wrap .i64 c26) < 224)))]) (by kernel_rfl) ?_
              refine gl_atE (by kernel_rfl) ?_
              exact ge_mid fun t ht => ⟨(Imm.refl _), rfl, by rw [(show b31 = (decide ((IntKind.wrap .i64 c26) < 224)) from hb32.trans (by rw [hc34]; try rfl))]; exact ht.pick (l := [0, 3, 4, 22]) (by kernel_rfl)⟩
            · refine gl_pure 4 [0, 3, 4, 22] (K' := [(0, .string a0), (3, .int .i64 s7), (4, .int .i64 (IntKind.wrap .i64 c26)), (22, .bool false)]) (by kernel_rfl) ?_
              refine gl_atE (by kernel_rfl) ?_
              exact ge_mid fun t ht => ⟨(Imm.refl _), rfl, by rw [(show b31 = false from hb32.trans (by rw [hc34]; try rfl))]; exact ht.pick (l := [0, 3, 4, 22]) (by kernel_rfl)⟩
          · rintro t I33 L' ⟨hI29, rfl, hK30⟩
            subst hb32
            refine ge_at hK30 ?_
            refine ge_seq ?_
            obtain ⟨j35, hj36, hj21⟩ := bind_some hj21
            refine gk_join (fun t I' L' => ∃ j37, j35 = Sum.inl j37 ∧ I33 ≤ I' ∧ L = L' ∧ Knows 98 [(0, .string a0), (3, .int .i64 s7), (5, .int .i64 j37.1), (6, .int .i64 j37.2.1), (7, .int .i64 j37.2.2)] t) ?_ ?_
            · refine gk_cond (b := ((decide ((IntKind.wrap .i64 c26) ≥ 194)) && (decide ((IntKind.wrap .i64 c26) < 224)))) (by kernel_rfl) (by kernel_rfl) (fun hc41 => ?_) (fun hc41 => ?_)
              · have hj36 := cond_t hc41 hj36
                refine gk_seq (by kernel_rfl) ?_
                refine gk_region (by kernel_rfl) ?_
                refine gl_pure 1 [0, 3, 4, 5] (K' := [(0, .string a0), (3, .int .i64 s7), (4, .int .i64 (IntKind.wrap .i64 c26)), (5, .int .i64 1)]) (by kernel_rfl) ?_
                refine gl_atE (by kernel_rfl) ?_
                refine ge_seq ?_
                refine gk_seq (by kernel_rfl) ?_
                refine gk_region (by kernel_rfl) ?_
                refine gl_pure 1 [0, 3, 4, 5, 6] (K' := [(0, .string a0), (3, .int .i64 s7), (4, .int .i64 (IntKind.wrap .i64 c26)), (5, .int .i64 1), (6, .int .i64 128)]) (by kernel_rfl) ?_
                refine gl_atE (by kernel_rfl) ?_
                refine ge_seq ?_
                refine gk_region (by kernel_rfl) ?_
                refine gl_pure 3 [0, 3, 5, 6, 7] (K' := [(0, .string a0), (3, .int .i64 s7), (5, .int .i64 1), (6, .int .i64 128), (7, .int .i64 (bitAnd .i64 (IntKind.wrap .i64 c26) 31))]) (by kernel_rfl) ?_
                refine gl_atE (by kernel_rfl) ?_
                obtain rfl := some_inj hj36
                exact ge_mid fun t ht => ⟨_, rfl, (Imm.refl _), rfl, ht.pick (l := [0, 3, 5, 6, 7]) (by kernel_rfl)⟩
              · have hj36 := cond_f hc41 hj36
                refine gk_seq (by kernel_rfl) ?_
                obtain ⟨b44, hb45⟩ : ∃ z, z = ((decide ((IntKind.wrap .i64 c26) ≥ 224)) && (decide ((IntKind.wrap .i64 c26) < 240))) := ⟨_, rfl⟩
                refine gk_join (fun t I' L' => I33 ≤ I' ∧ L = L' ∧ Knows 98 [(0, .string a0), (3, .int .i64 s7), (4, .int .i64 (IntKind.wrap .i64 c26)), (31, .bool b44)] t) ?_ ?_
                · refine gk_region (by kernel_rfl) ?_
                  refine gl_pure 3 [0, 3, 4, 34] (K' := [(0, .string a0), (3, .int .i64 s7), (4, .int .i64 (IntKind.wrap .i64 c26)), (34, .bool (decide ((IntKind.wrap .i64 c26) ≥ 224)))]) (by kernel_rfl) ?_
                  refine gl_case 34 (b := (decide ((IntKind.wrap .i64 c26) ≥ 224))) (by kernel_rfl) (fun hc47 => ?_) (fun hc47 => ?_)
                  · refine gl_pure 4 [0, 3, 4, 31] (K' := [(0, .string a0), (3, .int .i64 s7), (4, .int .i64 (IntKind.wrap .i64 c26)), (31, .bool (decide ((IntKind.wrap .i64 c26) < 240)))]) (by kernel_rfl) ?_
                    refine gl_atE (by kernel_rfl) ?_
                    exact ge_mid fun t ht => ⟨(Imm.refl _), rfl, by rw [(show b44 = (decide ((IntKind.wrap .i64 c26) < 240)) from hb45.trans (by rw [hc47]; try rfl))]; exact ht.pick (l := [0, 3, 4, 31]) (by kernel_rfl)⟩
                  · refine gl_pure 4 [0, 3, 4, 31] (K' := [(0, .string a0), (3, .int .i64 s7), (4, .int .i64 (IntKind.wrap .i64 c26)), (31, .bool false)]) (by kernel_rfl) ?_
                    refine gl_atE (by kernel_rfl) ?_
                    exact ge_mid fun t ht => ⟨(Imm.refl _), rfl, by rw [(show b44 = false from hb45.trans (by rw [hc47]; try rfl))]; exact ht.pick (l := [0, 3, 4, 31]) (by kernel_rfl)⟩
                · rintro t I46 L' ⟨hI42, rfl, hK43⟩
                  subst hb45
                  refine ge_at hK43 ?_
                  refine ge_seq ?_
                  obtain ⟨j48, hj49, hj36⟩ := bind_some hj36
                  refine gk_join (fun t I' L' => ∃ j50, j48 = Sum.inl j50 ∧ I46 ≤ I' ∧ L = L' ∧ Knows 98 [(0, .string a0), (3, .int .i64 s7), (5, .int .i64 j50.1), (6, .int .i64 j50.2.1), (7, .int .i64 j50.2.2)] t) ?_ ?_
                  · refine gk_cond (b := ((decide ((IntKind.wrap .i64 c26) ≥ 224)) && (decide ((IntKind.wrap .i64 c26) < 240)))) (by kernel_rfl) (by kernel_rfl) (fun hc54 => ?_) (fun hc54 => ?_)
                    · have hj49 := cond_t hc54 hj49
                      refine gk_seq (by kernel_rfl) ?_
                      refine gk_region (by kernel_rfl) ?_
                      refine gl_pure 1 [0, 3, 4, 5] (K' := [(0, .string a0), (3, .int .i64 s7), (4, .int .i64 (IntKind.wrap .i64 c26)), (5, .int .i64 2)]) (by kernel_rfl) ?_
                      refine gl_atE (by kernel_rfl) ?_
                      refine ge_seq ?_
                      refine gk_seq (by kernel_rfl) ?_
                      refine gk_region (by kernel_rfl) ?_
                      refine gl_pure 1 [0, 3, 4, 5, 6] (K' := [(0, .string a0), (3, .int .i64 s7), (4, .int .i64 (IntKind.wrap .i64 c26)), (5, .int .i64 2), (6, .int .i64 2048)]) (by kernel_rfl) ?_
                      refine gl_atE (by kernel_rfl) ?_
                      refine ge_seq ?_
                      refine gk_region (by kernel_rfl) ?_
                      refine gl_pure 3 [0, 3, 5, 6, 7] (K' := [(0, .string a0), (3, .int .i64 s7), (5, .int .i64 2), (6, .int .i64 2048), (7, .int .i64 (bitAnd .i64 (IntKind.wrap .i64 c26) 15))]) (by kernel_rfl) ?_
                      refine gl_atE (by kernel_rfl) ?_
                      obtain rfl := some_inj hj49
                      exact ge_mid fun t ht => ⟨_, rfl, (Imm.refl _), rfl, ht.pick (l := [0, 3, 5, 6, 7]) (by kernel_rfl)⟩
                    · have hj49 := cond_f hc54 hj49
                      refine gk_seq (by kernel_rfl) ?_
                      obtain ⟨b57, hb58⟩ : ∃ z, z = ((decide ((IntKind.wrap .i64 c26) ≥ 240)) && (decide ((IntKind.wrap .i64 c26) < 245))) := ⟨_, rfl⟩
                      refine gk_join (fun t I' L' => I46 ≤ I' ∧ L = L' ∧ Knows 98 [(0, .string a0), (3, .int .i64 s7), (4, .int .i64 (IntKind.wrap .i64 c26)), (40, .bool b57)] t) ?_ ?_
                      · refine gk_region (by kernel_rfl) ?_
                        refine gl_pure 3 [0, 3, 4, 43] (K' := [(0, .string a0), (3, .int .i64 s7), (4, .int .i64 (IntKind.wrap .i64 c26)), (43, .bool (decide ((IntKind.wrap .i64 c26) ≥ 240)))]) (by kernel_rfl) ?_
                        refine gl_case 43 (b := (decide ((IntKind.wrap .i64 c26) ≥ 240))) (by kernel_rfl) (fun hc60 => ?_) (fun hc60 => ?_)
                        · refine gl_pure 4 [0, 3, 4, 40] (K' := [(0, .string a0), (3, .int .i64 s7), (4, .int .i64 (IntKind.wrap .i64 c26)), (40, .bool (decide ((IntKind.wrap .i64 c26) < 245)))]) (by kernel_rfl) ?_
                          refine gl_atE (by kernel_rfl) ?_
                          exact ge_mid fun t ht => ⟨(Imm.refl _), rfl, by rw [(show b57 = (decide ((IntKind.wrap .i64 c26) < 245)) from hb58.trans (by rw [hc60]; try rfl))]; exact ht.pick (l := [0, 3, 4, 40]) (by kernel_rfl)⟩
                        · refine gl_pure 4 [0, 3, 4, 40] (K' := [(0, .string a0), (3, .int .i64 s7), (4, .int .i64 (IntKind.wrap .i64 c26)), (40, .bool false)]) (by kernel_rfl) ?_
                          refine gl_atE (by kernel_rfl) ?_
                          exact ge_mid fun t ht => ⟨(Imm.refl _), rfl, by rw [(show b57 = false from hb58.trans (by rw [hc60]; try rfl))]; exact ht.pick (l := [0, 3, 4, 40]) (by kernel_rfl)⟩
                      · rintro t I59 L' ⟨hI55, rfl, hK56⟩
                        subst hb58
                        refine ge_at hK56 ?_
                        refine ge_seq ?_
                        refine gk_cond (b := ((decide ((IntKind.wrap .i64 c26) ≥ 240)) && (decide ((IntKind.wrap .i64 c26) < 245)))) (by kernel_rfl) (by kernel_rfl) (fun hc61 => ?_) (fun hc61 => ?_)
                        · have hj49 := cond_t hc61 hj49
                          refine gk_seq (by kernel_rfl) ?_
                          refine gk_region (by kernel_rfl) ?_
                          refine gl_pure 1 [0, 3, 4, 5] (K' := [(0, .string a0), (3, .int .i64 s7), (4, .int .i64 (IntKind.wrap .i64 c26)), (5, .int .i64 3)]) (by kernel_rfl) ?_
                          refine gl_atE (by kernel_rfl) ?_
                          refine ge_seq ?_
                          refine gk_seq (by kernel_rfl) ?_
                          refine gk_region (by kernel_rfl) ?_
                          refine gl_pure 1 [0, 3, 4, 5, 6] (K' := [(0, .string a0), (3, .int .i64 s7), (4, .int .i64 (IntKind.wrap .i64 c26)), (5, .int .i64 3), (6, .int .i64 65536)]) (by kernel_rfl) ?_
                          refine gl_atE (by kernel_rfl) ?_
                          refine ge_seq ?_
                          refine gk_region (by kernel_rfl) ?_
                          refine gl_pure 3 [0, 3, 5, 6, 7] (K' := [(0, .string a0), (3, .int .i64 s7), (5, .int .i64 3), (6, .int .i64 65536), (7, .int .i64 (bitAnd .i64 (IntKind.wrap .i64 c26) 7))]) (by kernel_rfl) ?_
                          refine gl_atE (by kernel_rfl) ?_
                          obtain rfl := some_inj hj49
                          exact ge_mid fun t ht => ⟨_, rfl, hI55, rfl, ht.pick (l := [0, 3, 5, 6, 7]) (by kernel_rfl)⟩
                        · have hj49 := cond_f hc61 hj49
                          refine gk_seq (by kernel_rfl) ?_
                          refine gk_region (by kernel_rfl) ?_
                          refine gl_pure 1 [2] (K' := [(2, .bool false)]) (by kernel_rfl) ?_
                          refine gl_atE (by kernel_rfl) ?_
                          refine ge_seq ?_
                          refine gk_ret (by kernel_rfl) ?_
                          refine ge_seq_ret ?_
                          obtain rfl := some_inj hj49
                          refine ge_seq_ret ?_
                          obtain rfl := some_inj hj36
                          refine ge_block_ret ?_
                          refine ge_seq_ret ?_
                          refine ge_block_ret ?_
                          refine ge_seq_ret ?_
                          obtain rfl := some_inj hj21
                          obtain rfl := some_inj hb9
                          refine ge_round_out (fun hrr => ?_) (by intro h; cases h)
                          obtain rfl := hrr
                          refine ge_block_ret ?_
                          refine ge_seq_ret ?_
                          refine ge_seq_ret ?_
                          obtain rfl := some_inj hr
                          exact ge_result trivial (ResOk.tmp (by kernel_rfl) ResOk.nil) (Imm.trans (Imm.trans (Imm.trans hI10 hI29) hI42) hI55) ⟨rfl, rfl⟩
                  · rintro t I53 L' ⟨j50, rfl, hI51, rfl, hK52⟩
                    refine ge_at hK52 ?_
                    obtain rfl := some_inj hj36
                    exact ge_mid fun t ht => ⟨_, rfl, (Imm.trans hI42 hI51), rfl, ht.pick (l := [0, 3, 5, 6, 7]) (by kernel_rfl)⟩
            · rintro t I40 L' ⟨j37, rfl, hI38, rfl, hK39⟩
              refine ge_at hK39 ?_
              refine ge_block_normal ?_
              refine ge_seq ?_
              refine gk_seq (by kernel_rfl) ?_
              refine gk_seq (by kernel_rfl) ?_
              refine gk_region (by kernel_rfl) ?_
              refine gl_pure 1 [0, 3, 5, 6, 7, 8] (K' := [(0, .string a0), (3, .int .i64 s7), (5, .int .i64 j37.1), (6, .int .i64 j37.2.1), (7, .int .i64 j37.2.2), (8, .int .i64 1)]) (by kernel_rfl) ?_
              refine gl_atE (by kernel_rfl) ?_
              refine ge_seq ?_
              obtain ⟨r67, hl68, hj21⟩ := bind_some hj21
              refine gk_join (fun t I' L' => ∃ r75, r67 = Sum.inl r75 ∧ I40 ≤ I' ∧ L = L' ∧ Knows 98 [(0, .string a0), (3, .int .i64 s7), (5, .int .i64 j37.1), (6, .int .i64 j37.2.1), (7, .int .i64 r75)] t) ?_ ?_
              · refine gk_block (by kernel_rfl) ?_
                refine gk_pick [0, 3, 5, 6, 7, 8] (K' := [(0, .string a0), (3, .int .i64 s7), (5, .int .i64 j37.1), (6, .int .i64 j37.2.1), (7, .int .i64 j37.2.2), (8, .int .i64 1)]) (by kernel_rfl) ?_
                intro t hK
                refine gc_loop (tocsinref01_Utf8_l79 a0 s7 j37) (fun s69 t I' L' => I40 ≤ I' ∧ L = L' ∧ Knows 98 [(0, .string a0), (3, .int .i64 s7), (5, .int .i64 j37.1), (6, .int .i64 j37.2.1), (7, .int .i64 s69.1), (8, .int .i64 s69.2)] t) (by kernel_rfl) ?_ hl68 ⟨(Imm.refl _), rfl, hK⟩
                rintro s69 o70 t I74 L' hb71 ⟨hI72, rfl, hK73⟩
                unfold tocsinref01_Utf8_l79 at hb71
                refine gk_at hK73 ?_
                refine gk_seq (by kernel_rfl) ?_
                refine gk_seq (by kernel_rfl) ?_
                refine gk_region (by kernel_rfl) ?_
                refine gl_pure 3 [0, 3, 5, 6, 7, 8, 51] (K' := [(0, .string a0), (3, .int .i64 s7), (5, .int .i64 j37.1), (6, .int .i64 j37.2.1), (7, .int .i64 s69.1), (8, .int .i64 s69.2), (51, .bool (decide (s69.2 ≤ j37.1)))]) (by kernel_rfl) ?_
                refine gl_atE (by kernel_rfl) ?_
                refine ge_seq ?_
                refine gk_cond (b := (decide (s69.2 ≤ j37.1))) (by kernel_rfl) (by kernel_rfl) (fun hc81 => ?_) (fun hc81 => ?_)
                · have hb71 := cond_t hc81 hb71
                  refine gk_skip (by kernel_rfl) ?_
                  refine ge_seq ?_
                  refine gk_seq (by kernel_rfl) ?_
                  refine gk_block (by kernel_rfl) ?_
                  refine gk_seq (by kernel_rfl) ?_
                  refine gk_seq (by kernel_rfl) ?_
                  obtain ⟨j82, hj83, hb71⟩ := bind_some hb71
                  refine gk_join (fun t I' L' => I74 ≤ I' ∧ L = L' ∧ Knows 98 [(0, .string a0), (3, .int .i64 s7), (5, .int .i64 j37.1), (6, .int .i64 j37.2.1), (7, .int .i64 s69.1), (8, .int .i64 s69.2), (68, .bool j82)] t) ?_ ?_
                  · refine gk_region (by kernel_rfl) ?_
                    refine gl_pure 7 [0, 3, 5, 6, 7, 8, 60] (K' := [(0, .string a0), (3, .int .i64 s7), (5, .int .i64 j37.1), (6, .int .i64 j37.2.1), (7, .int .i64 s69.1), (8, .int .i64 s69.2), (60, .bool (decide ((IntKind.wrap .i64 (s7 + s69.2)) ≥ (a0.size : Int))))]) (by kernel_rfl) ?_
                    refine gl_case 60 (b := (decide ((IntKind.wrap .i64 (s7 + s69.2)) ≥ (a0.size : Int)))) (by kernel_rfl) (fun hc87 => ?_) (fun hc87 => ?_)
                    · have hj83 := cond_t hc87 hj83
                      refine gl_pure 8 [0, 3, 5, 6, 7, 8, 68] (K' := [(0, .string a0), (3, .int .i64 s7), (5, .int .i64 j37.1), (6, .int .i64 j37.2.1), (7, .int .i64 s69.1), (8, .int .i64 s69.2), (68, .bool true)]) (by kernel_rfl) ?_
                      refine gl_atE (by kernel_rfl) ?_
                      obtain rfl := some_inj hj83
                      exact ge_mid fun t ht => ⟨(Imm.refl _), rfl, ht.pick (l := [0, 3, 5, 6, 7, 8, 68]) (by kernel_rfl)⟩
                    · have hj83 := cond_f hc87 hj83
                      refine gl_pure 4 [0, 3, 5, 6, 7, 8, 60, 61, 64] (K' := [(0, .string a0), (3, .int .i64 s7), (5, .int .i64 j37.1), (6, .int .i64 j37.2.1), (7, .int .i64 s69.1), (8, .int .i64 s69.2), (60, .bool false), (61, .string a0), (64, .int .i64 (IntKind.wrap .i64 (s7 + s69.2)))]) (by kernel_rfl) ?_
                      obtain ⟨c88, hx89, hj83⟩ := bind_some hj83
                      refine gl_index' (T' := 9) (xs := (.tmp 61)) (xi := (.tmp 64)) (kd := .i64) hx89 (by kernel_rfl) (by kernel_rfl) (by kernel_rfl) (by kernel_rfl) (by kernel_rfl) ?_
                      refine gl_pure 3 [0, 3, 5, 6, 7, 8, 68] (K' := [(0, .string a0), (3, .int .i64 s7), (5, .int .i64 j37.1), (6, .int .i64 j37.2.1), (7, .int .i64 s69.1), (8, .int .i64 s69.2), (68, .bool ((bitAnd .u8 c88 192) != 128))]) (by kernel_rfl) ?_
                      refine gl_atE (by kernel_rfl) ?_
                      obtain rfl := some_inj hj83
                      exact ge_mid fun t ht => ⟨(Imm.refl _), rfl, ht.pick (l := [0, 3, 5, 6, 7, 8, 68]) (by kernel_rfl)⟩
                  · rintro t I86 L' ⟨hI84, rfl, hK85⟩
                    refine ge_at hK85 ?_
                    refine ge_seq ?_
                    refine gk_cond (b := j82) (by kernel_rfl) (by kernel_rfl) (fun hc90 => ?_) (fun hc90 => ?_)
                    · have hb71 := cond_t hc90 hb71
                      refine gk_seq (by kernel_rfl) ?_
                      refine gk_region (by kernel_rfl) ?_
                      refine gl_pure 1 [2] (K' := [(2, .bool false)]) (by kernel_rfl) ?_
                      refine gl_atE (by kernel_rfl) ?_
                      refine ge_seq ?_
                      refine gk_ret (by kernel_rfl) ?_
                      refine ge_seq_ret ?_
                      refine ge_block_ret ?_
                      refine ge_seq_ret ?_
                      obtain rfl := some_inj hb71
                      refine ge_round_out (fun hrr => ?_) (by intro h; cases h)
                      obtain rfl := hrr
                      refine ge_block_ret ?_
                      refine ge_seq_ret ?_
                      refine ge_seq_ret ?_
                      refine ge_block_ret ?_
                      refine ge_seq_ret ?_
                      obtain rfl := some_inj hj21
                      obtain rfl := some_inj hb9
                      refine ge_round_out (fun hrr => ?_) (by intro h; cases h)
                      obtain rfl := hrr
                      refine ge_block_ret ?_
                      refine ge_seq_ret ?_
                      refine ge_seq_ret ?_
                      obtain rfl := some_inj hr
                      exact ge_result trivial (ResOk.tmp (by kernel_rfl) ResOk.nil) (Imm.trans (Imm.trans (Imm.trans (Imm.trans hI10 hI29) hI38) hI72) hI84) ⟨rfl, rfl⟩
                    · have hb71 := cond_f hc90 hb71
                      refine gk_skip (by kernel_rfl) ?_
                      refine ge_seq ?_
                      refine gk_region (by kernel_rfl) ?_
                      refine gl_pure 6 [0, 3, 5, 6, 8, 70, 71, 74] (K' := [(0, .string a0), (3, .int .i64 s7), (5, .int .i64 j37.1), (6, .int .i64 j37.2.1), (8, .int .i64 s69.2), (70, .int .i64 (IntKind.wrap .i64 (s69.1 * 64))), (71, .string a0), (74, .int .i64 (IntKind.wrap .i64 (s7 + s69.2)))]) (by kernel_rfl) ?_
                      obtain ⟨c91, hx92, hb71⟩ := bind_some hb71
                      refine gl_index' (T' := 9) (xs := (.tmp 71)) (xi := (.tmp 74)) (kd := .i64) hx92 (by kernel_rfl) (by kernel_rfl) (by kernel_rfl) (by kernel_rfl) (by kernel_rfl) ?_
                      refine gl_pure 4 [0, 3, 5, 6, 7, 8] (K' := [(0, .string a0), (3, .int .i64 s7), (5, .int .i64 j37.1), (6, .int .i64 j37.2.1), (7, .int .i64 (IntKind.wrap .i64 ((IntKind.wrap .i64 (s69.1 * 64)) + (IntKind.wrap .i64 (bitAnd .u8 c91 63))))), (8, .int .i64 s69.2)]) (by kernel_rfl) ?_
                      refine gl_atE (by kernel_rfl) ?_
                      refine ge_block_normal ?_
                      refine ge_seq ?_
                      refine gk_region (by kernel_rfl) ?_
                      refine gl_pure 3 [0, 3, 5, 6, 7, 8] (K' := [(0, .string a0), (3, .int .i64 s7), (5, .int .i64 j37.1), (6, .int .i64 j37.2.1), (7, .int .i64 (IntKind.wrap .i64 ((IntKind.wrap .i64 (s69.1 * 64)) + (IntKind.wrap .i64 (bitAnd .u8 c91 63))))), (8, .int .i64 (IntKind.wrap .i64 (s69.2 + 1)))]) (by kernel_rfl) ?_
                      refine gl_atE (by kernel_rfl) ?_
                      obtain rfl := some_inj hb71
                      exact ge_round fun t ht => ⟨(Imm.trans hI72 hI84), rfl, ht.pick (l := [0, 3, 5, 6, 7, 8]) (by kernel_rfl)⟩
                · have hb71 := cond_f hc81 hb71
                  refine gk_exit (by kernel_rfl) ?_
                  refine ge_seq_exit ?_
                  obtain rfl := some_inj hb71
                  refine ge_round_out (fun hrr => ?_) (by intro h; cases h)
                  obtain rfl := hrr
                  refine ge_block_hit (by kernel_rfl) ?_
                  exact ge_mid fun t ht => ⟨_, rfl, hI72, rfl, ht.pick (l := [0, 3, 5, 6, 7]) (by kernel_rfl)⟩
              · rintro t I78 L' ⟨r75, rfl, hI76, rfl, hK77⟩
                refine ge_at hK77 ?_
                refine ge_seq ?_
                refine gk_seq (by kernel_rfl) ?_
                refine gk_seq (by kernel_rfl) ?_
                obtain ⟨b95, hb96⟩ : ∃ z, z = (((decide (r75 < j37.2.1)) || (decide (r75 > 1114111))) || ((decide (r75 ≥ 55296)) && (decide (r75 < 57344)))) := ⟨_, rfl⟩
                refine gk_join (fun t I' L' => I78 ≤ I' ∧ L = L' ∧ Knows 98 [(0, .string a0), (3, .int .i64 s7), (5, .int .i64 j37.1), (93, .bool b95)] t) ?_ ?_
                · refine gk_region (by kernel_rfl) ?_
                  refine gl_pure 4 [0, 3, 5, 7, 82] (K' := [(0, .string a0), (3, .int .i64 s7), (5, .int .i64 j37.1), (7, .int .i64 r75), (82, .bool (decide (r75 < j37.2.1)))]) (by kernel_rfl) ?_
                  refine gl_case 82 (b := (decide (r75 < j37.2.1))) (by kernel_rfl) (fun hc98 => ?_) (fun hc98 => ?_)
                  · refine gl_pure 11 [0, 3, 5, 93] (K' := [(0, .string a0), (3, .int .i64 s7), (5, .int .i64 j37.1), (93, .bool true)]) (by kernel_rfl) ?_
                    refine gl_atE (by kernel_rfl) ?_
                    exact ge_mid fun t ht => ⟨(Imm.refl _), rfl, by rw [(show b95 = true from hb96.trans (by rw [hc98]; try rfl))]; exact ht.pick (l := [0, 3, 5, 93]) (by kernel_rfl)⟩
                  · refine gl_pure 4 [0, 3, 5, 7, 86] (K' := [(0, .string a0), (3, .int .i64 s7), (5, .int .i64 j37.1), (7, .int .i64 r75), (86, .bool (decide (r75 > 1114111)))]) (by kernel_rfl) ?_
                    refine gl_case 86 (b := (decide (r75 > 1114111))) (by kernel_rfl) (fun hc99 => ?_) (fun hc99 => ?_)
                    · refine gl_pure 7 [0, 3, 5, 93] (K' := [(0, .string a0), (3, .int .i64 s7), (5, .int .i64 j37.1), (93, .bool true)]) (by kernel_rfl) ?_
                      refine gl_atE (by kernel_rfl) ?_
                      exact ge_mid fun t ht => ⟨(Imm.refl _), rfl, by rw [(show b95 = true from hb96.trans (by rw [hc98, hc99]; try rfl))]; exact ht.pick (l := [0, 3, 5, 93]) (by kernel_rfl)⟩
                    · refine gl_pure 3 [0, 3, 5, 7, 86, 89] (K' := [(0, .string a0), (3, .int .i64 s7), (5, .int .i64 j37.1), (7, .int .i64 r75), (86, .bool false), (89, .bool (decide (r75 ≥ 55296)))]) (by kernel_rfl) ?_
                      refine gl_case 89 (b := (decide (r75 ≥ 55296))) (by kernel_rfl) (fun hc100 => ?_) (fun hc100 => ?_)
                      · refine gl_pure 4 [0, 3, 5, 93] (K' := [(0, .string a0), (3, .int .i64 s7), (5, .int .i64 j37.1), (93, .bool (decide (r75 < 57344)))]) (by kernel_rfl) ?_
                        refine gl_atE (by kernel_rfl) ?_
                        exact ge_mid fun t ht => ⟨(Imm.refl _), rfl, by rw [(show b95 = (decide (r75 < 57344)) from hb96.trans (by rw [hc98, hc99, hc100]; try rfl))]; exact ht.pick (l := [0, 3, 5, 93]) (by kernel_rfl)⟩
                      · refine gl_pure 4 [0, 3, 5, 93] (K' := [(0, .string a0), (3, .int .i64 s7), (5, .int .i64 j37.1), (93, .bool false)]) (by kernel_rfl) ?_
                        refine gl_atE (by kernel_rfl) ?_
                        exact ge_mid fun t ht => ⟨(Imm.refl _), rfl, by rw [(show b95 = false from hb96.trans (by rw [hc98, hc99, hc100]; try rfl))]; exact ht.pick (l := [0, 3, 5, 93]) (by kernel_rfl)⟩
                · rintro t I97 L' ⟨hI93, rfl, hK94⟩
                  subst hb96
                  refine ge_at hK94 ?_
                  refine ge_seq ?_
                  refine gk_cond (b := (((decide (r75 < j37.2.1)) || (decide (r75 > 1114111))) || ((decide (r75 ≥ 55296)) && (decide (r75 < 57344))))) (by kernel_rfl) (by kernel_rfl) (fun hc101 => ?_) (fun hc101 => ?_)
                  · have hj21 := cond_t hc101 hj21
                    refine gk_seq (by kernel_rfl) ?_
                    refine gk_region (by kernel_rfl) ?_
                    refine gl_pure 1 [2] (K' := [(2, .bool false)]) (by kernel_rfl) ?_
                    refine gl_atE (by kernel_rfl) ?_
                    refine ge_seq ?_
                    refine gk_ret (by kernel_rfl) ?_
                    refine ge_seq_ret ?_
                    refine ge_block_ret ?_
                    refine ge_seq_ret ?_
                    obtain rfl := some_inj hj21
                    obtain rfl := some_inj hb9
                    refine ge_round_out (fun hrr => ?_) (by intro h; cases h)
                    obtain rfl := hrr
                    refine ge_block_ret ?_
                    refine ge_seq_ret ?_
                    refine ge_seq_ret ?_
                    obtain rfl := some_inj hr
                    exact ge_result trivial (ResOk.tmp (by kernel_rfl) ResOk.nil) (Imm.trans (Imm.trans (Imm.trans (Imm.trans hI10 hI29) hI38) hI76) hI93) ⟨rfl, rfl⟩
                  · have hj21 := cond_f hc101 hj21
                    refine gk_skip (by kernel_rfl) ?_
                    refine ge_seq ?_
                    refine gk_region (by kernel_rfl) ?_
                    refine gl_pure 5 [0, 3] (K' := [(0, .string a0), (3, .int .i64 (IntKind.wrap .i64 ((IntKind.wrap .i64 (s7 + j37.1)) + 1)))]) (by kernel_rfl) ?_
                    refine gl_atE (by kernel_rfl) ?_
                    refine ge_block_normal ?_
                    obtain rfl := some_inj hj21
                    exact ge_mid fun t ht => ⟨_, rfl, (Imm.trans (Imm.trans (Imm.trans hI29 hI38) hI76) hI93), rfl, ht.pick (l := [0, 3]) (by kernel_rfl)⟩
      · rintro t I25 L' ⟨j22, rfl, hI23, rfl, hK24⟩
        refine ge_at hK24 ?_
        obtain rfl := some_inj hb9
        exact ge_round fun t ht => ⟨(Imm.trans hI10 hI23), rfl, ht.pick (l := [0, 3]) (by kernel_rfl)⟩
    · have hb9 := cond_f hc19 hb9
      refine gk_exit (by kernel_rfl) ?_
      refine ge_seq_exit ?_
      obtain rfl := some_inj hb9
      refine ge_round_out (fun hrr => ?_) (by intro h; cases h)
      obtain rfl := hrr
      refine ge_block_hit (by kernel_rfl) ?_
      exact ge_mid fun t ht => ⟨_, rfl, hI10, rfl, ht.pick (l := []) (by kernel_rfl)⟩
  · rintro t I16 L' ⟨r13, rfl, hI14, rfl, hK15⟩
    refine ge_at hK15 ?_
    refine ge_seq ?_
    refine gk_seq (by kernel_rfl) ?_
    refine gk_region (by kernel_rfl) ?_
    refine gl_pure 1 [2] (K' := [(2, .bool true)]) (by kernel_rfl) ?_
    refine gl_atE (by kernel_rfl) ?_
    refine ge_seq ?_
    refine gk_ret (by kernel_rfl) ?_
    obtain rfl := some_inj hr
    exact ge_result trivial (ResOk.tmp (by kernel_rfl) ResOk.nil) hI14 ⟨rfl, rfl⟩
/-! 16 tocsinref13_Quote  -/
noncomputable def tocsinref13_Quote_l35 (a0 : ByteArray) : ((List Int) × Int) → Option (((List Int) × Int) ⊕ ((List Int))) := fun s18 =>
  bif (decide (s18.2 < (a0.size : Int))) then
  (Option.bind (bx a0 s18.2) fun (c38 : Int) =>
    Option.bind (bif ((c38 == 92) || (c38 == 34)) then
      (Option.bind (app s18.1 [92, c38]) fun (zs58 : List Int) =>
        some zs58)
      else
      (Option.bind (bif (c38 == 10) then
          (Option.bind (app s18.1 [92, 110]) fun (zs78 : List Int) =>
            some zs78)
          else
          (Option.bind (bif (c38 == 9) then
              (Option.bind (app s18.1 [92, 116]) fun (zs98 : List Int) =>
                some zs98)
              else
              (Option.bind (bif (c38 == 13) then
                  (Option.bind (app s18.1 [92, 114]) fun (zs118 : List Int) =>
                    some zs118)
                  else
                  (Option.bind (bif ((decide (c38 < 32)) || (c38 == 127)) then
                      (Option.bind (bx (⟨#[48, 49, 50, 51, 52, 53, 54, 55, 56, 57, 97, 98, 99, 100, 101, 102]⟩ : ByteArray) (IntKind.wrap .u8 (Int.tdiv c38 16))) fun (c140 : Int) =>
                        Option.bind (bx (⟨#[48, 49, 50, 51, 52, 53, 54, 55, 56, 57, 97, 98, 99, 100, 101, 102]⟩ : ByteArray) (Int.tmod c38 16)) fun (c142 : Int) =>
                        Option.bind (app s18.1 [92, 120, c140, c142]) fun (zs148 : List Int) =>
                        some zs148)
                      else
                      (Option.bind (app s18.1 [c38]) fun (zs158 : List Int) =>
                        some zs158)) fun (j130 : (List Int)) =>
                    some j130)) fun (j104 : (List Int)) =>
                some j104)) fun (j84 : (List Int)) =>
            some j84)) fun (j64 : (List Int)) =>
        some j64)) fun (j44 : (List Int)) =>
    some (Sum.inl (j44, (IntKind.wrap .i64 (s18.2 + 1)))))
  else
  (some (Sum.inr s18.1))
noncomputable def tocsinref13_Quote (a0 : ByteArray) : Option (ByteArray × Int) :=
  Option.bind (tocsinref01_Utf8 a0) fun (y1 : Bool) =>
  bif (!y1) then
  (some ((⟨#[]⟩ : ByteArray), 12))
  else
  (Option.bind (loopO (tocsinref13_Quote_l35 a0) ([34], 0)) fun (r16 : (List Int)) =>
    Option.bind (app r16 [34]) fun (zs168 : List Int) =>
    some ((ofBytes zs168), 0))
theorem tocsinref13_Quote_walk {a0 : ByteArray} {I : Imm} {r : ByteArray × Int}  (hr : tocsinref13_Quote a0 = some r) (L : Own) :
    CallsTo Tryd.prog 16 #[.string a0] I L (fun v I' L' => v = .tuple #[.string r.1, .int .i64 r.2] ∧ L = L') := by
  unfold tocsinref13_Quote at hr
  refine callsTo_body (N := 74) Tryd.func16 (by kernel_rfl) (by kernel_rfl) (by kernel_rfl) ?_
  refine gk_pick [0] (K' := [(0, .string a0)]) (by kernel_rfl) ?_
  refine gk_seq (by kernel_rfl) ?_
  refine gk_region (by kernel_rfl) ?_
  refine gl_pure 2 [0] (K' := [(0, .string a0)]) (by kernel_rfl) ?_
  refine gl_atE (by kernel_rfl) ?_
  refine ge_seq ?_
  refine gk_seq (by kernel_rfl) ?_
  refine gk_seq (by kernel_rfl) ?_
  refine gk_region (by kernel_rfl) ?_
  refine gl_pure 1 [0, 7] (K' := [(0, .string a0), (7, .string a0)]) (by kernel_rfl) ?_
  obtain ⟨y1, hx2, hr⟩ := bind_some hr
  refine gl_callQ (by kernel_rfl) (tocsinref01_Utf8_walk (r := y1)  hx2 _) ?_
  refine gl_pure 1 [0, 9] (K' := [(0, .string a0), (9, .bool (!y1))]) (by kernel_rfl) ?_
  refine gl_atE (by kernel_rfl) ?_
  refine ge_seq ?_
  refine gk_cond (b := (!y1)) (by kernel_rfl) (by kernel_rfl) (fun hc3 => ?_) (fun hc3 => ?_)
  · have hr := cond_t hc3 hr
    refine gk_seq (by kernel_rfl) ?_
    refine gk_region (by kernel_rfl) ?_
    refine gl_pure 2 [2, 3] (K' := [(2, .string (⟨#[]⟩ : ByteArray)), (3, .int .i64 12)]) (by kernel_rfl) ?_
    refine gl_atE (by kernel_rfl) ?_
    refine ge_seq ?_
    refine gk_ret (by kernel_rfl) ?_
    refine ge_seq_ret ?_
    obtain rfl := some_inj hr
    exact ge_result trivial (ResOk.tmp (by kernel_rfl) (ResOk.tmp (by kernel_rfl) ResOk.nil)) (Imm.refl _) ⟨rfl, rfl⟩
  · have hr := cond_f hc3 hr
    refine gk_skip (by kernel_rfl) ?_
    refine ge_seq ?_
    refine gk_seq (by kernel_rfl) ?_
    refine gk_region (by kernel_rfl) ?_
    refine gl_buildSlice (T' := 41) (e := 5) (n := 1) (len := 1) (parts := #[(0, (.const (.int .u8 34)))]) (l := [(0, .int .u8 34)]) (cs := #[.int .u8 34]) (by kernel_rfl) (by kernel_rfl) (by kernel_rfl) (by kernel_rfl) (by kernel_rfl) (fun g4 => ?_)
    have hO5 : OwnS (Kd.int .u8) 5 I (some ⟨g4, 0, none⟩) 1 [34] [(g4, .cells #[.int .u8 34] 5)] := OwnS.lit (row_cons (l := [.int .u8 34]) rfl (row_nil _ _)) rfl rfl rfl
    refine gl_reord (D := [(g4, .cells #[.int .u8 34] 5)] ++ L) (Reord.refl _) ?_
    refine gl_pure 1 [0, 4] (K' := [(0, .string a0), (4, .slice (some ⟨g4, 0, none⟩) [34].length 1)]) (by kernel_rfl) ?_
    refine gl_atE (by kernel_rfl) ?_
    refine ge_seq ?_
    refine gk_seq (by kernel_rfl) ?_
    refine gk_seq (by kernel_rfl) ?_
    refine gk_region (by kernel_rfl) ?_
    refine gl_pure 1 [0, 4, 5] (K' := [(0, .string a0), (4, .slice (some ⟨g4, 0, none⟩) [34].length 1), (5, .int .i64 0)]) (by kernel_rfl) ?_
    refine gl_atE (by kernel_rfl) ?_
    refine ge_seq ?_
    obtain ⟨r16, hl17, hr⟩ := bind_some hr
    refine gk_join (fun t I' L' => ∃ A29 n30 C31, OwnS (Kd.int .u8) 5 I' A29 n30 r16 C31 ∧ I ≤ I' ∧ C31 ++ L = L' ∧ Knows 74 [(4, .slice A29 r16.length n30)] t) ?_ ?_
    · refine gk_block (by kernel_rfl) ?_
      refine gk_pick [0, 4, 5] (K' := [(0, .string a0), (4, .slice (some ⟨g4, 0, none⟩) [34].length 1), (5, .int .i64 0)]) (by kernel_rfl) ?_
      intro t hK
      refine gc_loop (tocsinref13_Quote_l35 a0) (fun s18 t I' L' => ∃ A22 n23 C24, OwnS (Kd.int .u8) 5 I' A22 n23 s18.1 C24 ∧ I ≤ I' ∧ C24 ++ L = L' ∧ Knows 74 [(0, .string a0), (4, .slice A22 s18.1.length n23), (5, .int .i64 s18.2)] t) (by kernel_rfl) ?_ hl17 ⟨(some ⟨g4, 0, none⟩), 1, [(g4, .cells #[.int .u8 34] 5)], hO5, (Imm.refl _), rfl, hK⟩
      rintro s18 o19 t I27 L' hb20 ⟨A22, n23, C24, hO25, hI21, rfl, hK26⟩
      unfold tocsinref13_Quote_l35 at hb20
      refine gk_at hK26 ?_
      refine gk_seq (by kernel_rfl) ?_
      refine gk_seq (by kernel_rfl) ?_
      refine gk_region (by kernel_rfl) ?_
      refine gl_pure 4 [0, 4, 5, 14] (K' := [(0, .string a0), (4, .slice A22 s18.1.length n23), (5, .int .i64 s18.2), (14, .bool (decide (s18.2 < (a0.size : Int))))]) (by kernel_rfl) ?_
      refine gl_atE (by kernel_rfl) ?_
      refine ge_seq ?_
      refine gk_cond (b := (decide (s18.2 < (a0.size : Int)))) (by kernel_rfl) (by kernel_rfl) (fun hc37 => ?_) (fun hc37 => ?_)
      · have hb20 := cond_t hc37 hb20
        refine gk_skip (by kernel_rfl) ?_
        refine ge_seq ?_
        refine gk_seq (by kernel_rfl) ?_
        refine gk_block (by kernel_rfl) ?_
        refine gk_seq (by kernel_rfl) ?_
        refine gk_region (by kernel_rfl) ?_
        refine gl_pure 2 [0, 4, 5, 17, 18] (K' := [(0, .string a0), (4, .slice A22 s18.1.length n23), (5, .int .i64 s18.2), (17, .string a0), (18, .int .i64 s18.2)]) (by kernel_rfl) ?_
        obtain ⟨c38, hx39, hb20⟩ := bind_some hb20
        refine gl_index' (T' := 9) (xs := (.tmp 17)) (xi := (.tmp 18)) (kd := .i64) hx39 (by kernel_rfl) (by kernel_rfl) (by kernel_rfl) (by kernel_rfl) (by kernel_rfl) ?_
        refine gl_pure 1 [0, 4, 5, 6] (K' := [(0, .string a0), (4, .slice A22 s18.1.length n23), (5, .int .i64 s18.2), (6, .int .u8 c38)]) (by kernel_rfl) ?_
        refine gl_atE (by kernel_rfl) ?_
        refine ge_seq ?_
        refine gk_block (by kernel_rfl) ?_
        refine gk_seq (by kernel_rfl) ?_
        refine gk_join (fun t I' L' => I27 ≤ I' ∧ C24 ++ L = L' ∧ Knows 74 [(0, .string a0), (4, .slice A22 s18.1.length n23), (5, .int .i64 s18.2), (6, .int .u8 c38), (24, .bool ((c38 == 92) || (c38 == 34)))] t) ?_ ?_
        · refine gk_region (by kernel_rfl) ?_
          refine gl_pure 3 [0, 4, 5, 6, 27] (K' := [(0, .string a0), (4, .slice A22 s18.1.length n23), (5, .int .i64 s18.2), (6, .int .u8 c38), (27, .bool (c38 == 92))]) (by kernel_rfl) ?_
          refine gl_case 27 (b := (c38 == 92)) (by kernel_rfl) (fun hc43 => ?_) (fun hc43 => ?_)
          · refine gl_pure 4 [0, 4, 5, 6, 24] (K' := [(0, .string a0), (4, .slice A22 s18.1.length n23), (5, .int .i64 s18.2), (6, .int .u8 c38), (24, .bool true)]) (by kernel_rfl) ?_
            refine gl_atE (by kernel_rfl) ?_
            exact ge_mid fun t ht => ⟨(Imm.refl _), rfl, by rw [(show ((c38 == 92) || (c38 == 34)) = true from by rw [hc43]; try rfl)]; exact ht.pick (l := [0, 4, 5, 6, 24]) (by kernel_rfl)⟩
          · refine gl_pure 4 [0, 4, 5, 6, 24] (K' := [(0, .string a0), (4, .slice A22 s18.1.length n23), (5, .int .i64 s18.2), (6, .int .u8 c38), (24, .bool (c38 == 34))]) (by kernel_rfl) ?_
            refine gl_atE (by kernel_rfl) ?_
            exact ge_mid fun t ht => ⟨(Imm.refl _), rfl, by rw [(show ((c38 == 92) || (c38 == 34)) = (c38 == 34) from by rw [hc43]; try rfl)]; exact ht.pick (l := [0, 4, 5, 6, 24]) (by kernel_rfl)⟩
        · rintro t I42 L' ⟨hI40, rfl, hK41⟩
          refine ge_at hK41 ?_
          refine ge_seq ?_
          obtain ⟨j44, hj45, hb20⟩ := bind_some hb20
          refine gk_join (fun t I' L' => ∃ A47 n48 C49, OwnS (Kd.int .u8) 5 I' A47 n48 j44 C49 ∧ I42 ≤ I' ∧ C49 ++ L = L' ∧ Knows 74 [(0, .string a0), (4, .slice A47 j44.length n48), (5, .int .i64 s18.2)] t) ?_ ?_
          · refine gk_cond (b := ((c38 == 92) || (c38 == 34))) (by kernel_rfl) (by kernel_rfl) (fun hc53 => ?_) (fun hc53 => ?_)
            · have hj45 := cond_t hc53 hj45
              refine gk_region (by kernel_rfl) ?_
              refine gl_pure 2 [0, 5, 31, 32] (K' := [(0, .string a0), (5, .int .i64 s18.2), (31, .slice A22 s18.1.length n23), (32, .int .u8 c38)]) (by kernel_rfl) ?_
              refine gl_buildSlice (T' := 41) (e := 5) (n := 1) (len := 2) (parts := #[(0, (.const (.int .u8 92))), (1, (.tmp 32))]) (l := [(0, .int .u8 92), (1, .int .u8 c38)]) (cs := #[.int .u8 92, .int .u8 c38]) (by kernel_rfl) (by kernel_rfl) (by kernel_rfl) (by kernel_rfl) (by kernel_rfl) (fun g54 => ?_)
              have hO55 : OwnS (Kd.int .u8) 5 I42 (some ⟨g54, 0, none⟩) 2 [92, c38] [(g54, .cells #[.int .u8 92, .int .u8 c38] 5)] := OwnS.lit (row_cons (l := [.int .u8 92]) rfl (row_cons (l := [.int .u8 c38]) rfl (row_nil _ _))) rfl rfl rfl
              refine gl_reord (D := [(g54, .cells #[.int .u8 92, .int .u8 c38] 5)] ++ (C24 ++ L)) (Reord.refl _) ?_
              obtain ⟨zs58, hz59, hj45⟩ := bind_some hj45
              refine gl_append (xv := .slice (some ⟨g54, 0, none⟩) [92, c38].length 2) (d := (Kd.int .u8)) (t := 41) (tx := 41) (e := 5) (s := (.tmp 31)) (x := (.tmp 33)) (xs := s18.1) (fun X => [(g54, .cells #[.int .u8 92, .int .u8 c38] 5)] ++ (X ++ L)) hz59 (by kernel_rfl) (by kernel_rfl) (by kernel_rfl) (by kernel_rfl) (by kernel_rfl) (by kernel_rfl) (fun X => (Upd.app _ (Upd.head _ X _))) (hO25.mono hI40) (SrcOk.slice (c := 2) (e := 5) (n := 1) (OwnS.rd hO55 (Upd.selfC _ _)) (by kernel_rfl)) (fun A60 n61 C62 hO63 => ?_)
              refine gl_pure 1 [0, 4, 5] (K' := [(0, .string a0), (4, .slice A60 zs58.length n61), (5, .int .i64 s18.2)]) (by kernel_rfl) ?_
              refine gl_reord (D := C62 ++ L) (Reord.step (Upd.app _ (Upd.rmC _ _)) (Reord.skipC (Reord.refl _))) ?_
              refine gl_atE (by kernel_rfl) ?_
              obtain rfl := some_inj hj45
              exact ge_mid fun t ht => ⟨A60, n61, C62, hO63, (Imm.refl _), rfl, ht.pick (l := [0, 4, 5]) (by kernel_rfl)⟩
            · have hj45 := cond_f hc53 hj45
              refine gk_seq (by kernel_rfl) ?_
              refine gk_region (by kernel_rfl) ?_
              refine gl_pure 3 [0, 4, 5, 6, 35] (K' := [(0, .string a0), (4, .slice A22 s18.1.length n23), (5, .int .i64 s18.2), (6, .int .u8 c38), (35, .bool (c38 == 10))]) (by kernel_rfl) ?_
              refine gl_atE (by kernel_rfl) ?_
              refine ge_seq ?_
              obtain ⟨j64, hj65, hj45⟩ := bind_some hj45
              refine gk_join (fun t I' L' => ∃ A67 n68 C69, OwnS (Kd.int .u8) 5 I' A67 n68 j64 C69 ∧ I42 ≤ I' ∧ C69 ++ L = L' ∧ Knows 74 [(0, .string a0), (4, .slice A67 j64.length n68), (5, .int .i64 s18.2)] t) ?_ ?_
              · refine gk_cond (b := (c38 == 10)) (by kernel_rfl) (by kernel_rfl) (fun hc73 => ?_) (fun hc73 => ?_)
                · have hj65 := cond_t hc73 hj65
                  refine gk_region (by kernel_rfl) ?_
                  refine gl_pure 1 [0, 5, 38] (K' := [(0, .string a0), (5, .int .i64 s18.2), (38, .slice A22 s18.1.length n23)]) (by kernel_rfl) ?_
                  refine gl_buildSlice (T' := 41) (e := 5) (n := 1) (len := 2) (parts := #[(0, (.const (.int .u8 92))), (1, (.const (.int .u8 110)))]) (l := [(0, .int .u8 92), (1, .int .u8 110)]) (cs := #[.int .u8 92, .int .u8 110]) (by kernel_rfl) (by kernel_rfl) (by kernel_rfl) (by kernel_rfl) (by kernel_rfl) (fun g74 => ?_)
                  have hO75 : OwnS (Kd.int .u8) 5 I42 (some ⟨g74, 0, none⟩) 2 [92, 110] [(g74, .cells #[.int .u8 92, .int .u8 110] 5)] := OwnS.lit (row_cons (l := [.int .u8 92]) rfl (row_cons (l := [.int .u8 110]) rfl (row_nil _ _))) rfl rfl rfl
                  refine gl_reord (D := [(g74, .cells #[.int .u8 92, .int .u8 110] 5)] ++ (C24 ++ L)) (Reord.refl _) ?_
                  obtain ⟨zs78, hz79, hj65⟩ := bind_some hj65
                  refine gl_append (xv := .slice (some ⟨g74, 0, none⟩) [92, 110].length 2) (d := (Kd.int .u8)) (t := 41) (tx := 41) (e := 5) (s := (.tmp 38)) (x := (.tmp 39)) (xs := s18.1) (fun X => [(g74, .cells #[.int .u8 92, .int .u8 110] 5)] ++ (X ++ L)) hz79 (by kernel_rfl) (by kernel_rfl) (by kernel_rfl) (by kernel_rfl) (by kernel_rfl) (by kernel_rfl) (fun X => (Upd.app _ (Upd.head _ X _))) (hO25.mono hI40) (SrcOk.slice (c := 2) (e := 5) (n := 1) (OwnS.rd hO75 (Upd.selfC _ _)) (by kernel_rfl)) (fun A80 n81 C82 hO83 => ?_)
                  refine gl_pure 1 [0, 4, 5] (K' := [(0, .string a0), (4, .slice A80 zs78.length n81), (5, .int .i64 s18.2)]) (by kernel_rfl) ?_
                  refine gl_reord (D := C82 ++ L) (Reord.step (Upd.app _ (Upd.rmC _ _)) (Reord.skipC (Reord.refl _))) ?_
                  refine gl_atE (by kernel_rfl) ?_
                  obtain rfl := some_inj hj65
                  exact ge_mid fun t ht => ⟨A80, n81, C82, hO83, (Imm.refl _), rfl, ht.pick (l := [0, 4, 5]) (by kernel_rfl)⟩
                · have hj65 := cond_f hc73 hj65
                  refine gk_seq (by kernel_rfl) ?_
                  refine gk_region (by kernel_rfl) ?_
                  refine gl_pure 3 [0, 4, 5, 6, 41] (K' := [(0, .string a0), (4, .slice A22 s18.1.length n23), (5, .int .i64 s18.2), (6, .int .u8 c38), (41, .bool (c38 == 9))]) (by kernel_rfl) ?_
                  refine gl_atE (by kernel_rfl) ?_
                  refine ge_seq ?_
                  obtain ⟨j84, hj85, hj65⟩ := bind_some hj65
                  refine gk_join (fun t I' L' => ∃ A87 n88 C89, OwnS (Kd.int .u8) 5 I' A87 n88 j84 C89 ∧ I42 ≤ I' ∧ C89 ++ L = L' ∧ Knows 74 [(0, .string a0), (4, .slice A87 j84.length n88), (5, .int .i64 s18.2)] t) ?_ ?_
                  · refine gk_cond (b := (c38 == 9)) (by kernel_rfl) (by kernel_rfl) (fun hc93 => ?_) (fun hc93 => ?_)
                    · have hj85 := cond_t hc93 hj85
                      refine gk_region (by kernel_rfl) ?_
                      refine gl_pure 1 [0, 5, 44] (K' := [(0, .string a0), (5, .int .i64 s18.2), (44, .slice A22 s18.1.length n23)]) (by kernel_rfl) ?_
                      refine gl_buildSlice (T' := 41) (e := 5) (n := 1) (len := 2) (parts := #[(0, (.const (.int .u8 92))), (1, (.const (.int .u8 116)))]) (l := [(0, .int .u8 92), (1, .int .u8 116)]) (cs := #[.int .u8 92, .int .u8 116]) (by kernel_rfl) (by kernel_rfl) (by kernel_rfl) (by kernel_rfl) (by kernel_rfl) (fun g94 => ?_)
                      have hO95 : OwnS (Kd.int .u8) 5 I42 (some ⟨g94, 0, none⟩) 2 [92, 116] [(g94, .cells #[.int .u8 92, .int .u8 116] 5)] := OwnS.lit (row_cons (l := [.int .u8 92]) rfl (row_cons (l := [.int .u8 116]) rfl (row_nil _ _))) rfl rfl rfl
                      refine gl_reord (D := [(g94, .cells #[.int .u8 92, .int .u8 116] 5)] ++ (C24 ++ L)) (Reord.refl _) ?_
                      obtain ⟨zs98, hz99, hj85⟩ := bind_some hj85
                      refine gl_append (xv := .slice (some ⟨g94, 0, none⟩) [92, 116].length 2) (d := (Kd.int .u8)) (t := 41) (tx := 41) (e := 5) (s := (.tmp 44)) (x := (.tmp 45)) (xs := s18.1) (fun X => [(g94, .cells #[.int .u8 92, .int .u8 116] 5)] ++ (X ++ L)) hz99 (by kernel_rfl) (by kernel_rfl) (by kernel_rfl) (by kernel_rfl) (by kernel_rfl) (by kernel_rfl) (fun X => (Upd.app _ (Upd.head _ X _))) (hO25.mono hI40) (SrcOk.slice (c := 2) (e := 5) (n := 1) (OwnS.rd hO95 (Upd.selfC _ _)) (by kernel_rfl)) (fun A100 n101 C102 hO103 => ?_)
                      refine gl_pure 1 [0, 4, 5] (K' := [(0, .string a0), (4, .slice A100 zs98.length n101), (5, .int .i64 s18.2)]) (by kernel_rfl) ?_
                      refine gl_reord (D := C102 ++ L) (Reord.step (Upd.app _ (Upd.rmC _ _)) (Reord.skipC (Reord.refl _))) ?_
                      refine gl_atE (by kernel_rfl) ?_
                      obtain rfl := some_inj hj85
                      exact ge_mid fun t ht => ⟨A100, n101, C102, hO103, (Imm.refl _), rfl, ht.pick (l := [0, 4, 5]) (by kernel_rfl)⟩
                    · have hj85 := cond_f hc93 hj85
                      refine gk_seq (by kernel_rfl) ?_
                      refine gk_region (by kernel_rfl) ?_
                      refine gl_pure 3 [0, 4, 5, 6, 47] (K' := [(0, .string a0), (4, .slice A22 s18.1.length n23), (5, .int .i64 s18.2), (6, .int .u8 c38), (47, .bool (c38 == 13))]) (by kernel_rfl) ?_
                      refine gl_atE (by kernel_rfl) ?_
                      refine ge_seq ?_
                      obtain ⟨j104, hj105, hj85⟩ := bind_some hj85
                      refine gk_join (fun t I' L' => ∃ A107 n108 C109, OwnS (Kd.int .u8) 5 I' A107 n108 j104 C109 ∧ I42 ≤ I' ∧ C109 ++ L = L' ∧ Knows 74 [(0, .string a0), (4, .slice A107 j104.length n108), (5, .int .i64 s18.2)] t) ?_ ?_
                      · refine gk_cond (b := (c38 == 13)) (by kernel_rfl) (by kernel_rfl) (fun hc113 => ?_) (fun hc113 => ?_)
                        · have hj105 := cond_t hc113 hj105
                          refine gk_region (by kernel_rfl) ?_
                          refine gl_pure 1 [0, 5, 50] (K' := [(0, .string a0), (5, .int .i64 s18.2), (50, .slice A22 s18.1.length n23)]) (by kernel_rfl) ?_
                          refine gl_buildSlice (T' := 41) (e := 5) (n := 1) (len := 2) (parts := #[(0, (.const (.int .u8 92))), (1, (.const (.int .u8 114)))]) (l := [(0, .int .u8 92), (1, .int .u8 114)]) (cs := #[.int .u8 92, .int .u8 114]) (by kernel_rfl) (by kernel_rfl) (by kernel_rfl) (by kernel_rfl) (by kernel_rfl) (fun g114 => ?_)
                          have hO115 : OwnS (Kd.int .u8) 5 I42 (some ⟨g114, 0, none⟩) 2 [92, 114] [(g114, .cells #[.int .u8 92, .int .u8 114] 5)] := OwnS.lit (row_cons (l := [.int .u8 92]) rfl (row_cons (l := [.int .u8 114]) rfl (row_nil _ _))) rfl rfl rfl
                          refine gl_reord (D := [(g114, .cells #[.int .u8 92, .int .u8 114] 5)] ++ (C24 ++ L)) (Reord.refl _) ?_
                          obtain ⟨zs118, hz119, hj105⟩ := bind_some hj105
                          refine gl_append (xv := .slice (some ⟨g114, 0, none⟩) [92, 114].length 2) (d := (Kd.int .u8)) (t := 41) (tx := 41) (e := 5) (s := (.tmp 50)) (x := (.tmp 51)) (xs := s18.1) (fun X => [(g114, .cells #[.int .u8 92, .int .u8 114] 5)] ++ (X ++ L)) hz119 (by kernel_rfl) (by kernel_rfl) (by kernel_rfl) (by kernel_rfl) (by kernel_rfl) (by kernel_rfl) (fun X => (Upd.app _ (Upd.head _ X _))) (hO25.mono hI40) (SrcOk.slice (c := 2) (e := 5) (n := 1) (OwnS.rd hO115 (Upd.selfC _ _)) (by kernel_rfl)) (fun A120 n121 C122 hO123 => ?_)
                          refine gl_pure 1 [0, 4, 5] (K' := [(0, .string a0), (4, .slice A120 zs118.length n121), (5, .int .i64 s18.2)]) (by kernel_rfl) ?_
                          refine gl_reord (D := C122 ++ L) (Reord.step (Upd.app _ (Upd.rmC _ _)) (Reord.skipC (Reord.refl _))) ?_
                          refine gl_atE (by kernel_rfl) ?_
                          obtain rfl := some_inj hj105
                          exact ge_mid fun t ht => ⟨A120, n121, C122, hO123, (Imm.refl _), rfl, ht.pick (l := [0, 4, 5]) (by kernel_rfl)⟩
                        · have hj105 := cond_f hc113 hj105
                          refine gk_seq (by kernel_rfl) ?_
                          obtain ⟨b126, hb127⟩ : ∃ z, z = ((decide (c38 < 32)) || (c38 == 127)) := ⟨_, rfl⟩
                          refine gk_join (fun t I' L' => I42 ≤ I' ∧ C24 ++ L = L' ∧ Knows 74 [(0, .string a0), (4, .slice A22 s18.1.length n23), (5, .int .i64 s18.2), (6, .int .u8 c38), (53, .bool b126)] t) ?_ ?_
                          · refine gk_region (by kernel_rfl) ?_
                            refine gl_pure 3 [0, 4, 5, 6, 56] (K' := [(0, .string a0), (4, .slice A22 s18.1.length n23), (5, .int .i64 s18.2), (6, .int .u8 c38), (56, .bool (decide (c38 < 32)))]) (by kernel_rfl) ?_
                            refine gl_case 56 (b := (decide (c38 < 32))) (by kernel_rfl) (fun hc129 => ?_) (fun hc129 => ?_)
                            · refine gl_pure 4 [0, 4, 5, 6, 53] (K' := [(0, .string a0), (4, .slice A22 s18.1.length n23), (5, .int .i64 s18.2), (6, .int .u8 c38), (53, .bool true)]) (by kernel_rfl) ?_
                              refine gl_atE (by kernel_rfl) ?_
                              exact ge_mid fun t ht => ⟨(Imm.refl _), rfl, by rw [(show b126 = true from hb127.trans (by rw [hc129]; try rfl))]; exact ht.pick (l := [0, 4, 5, 6, 53]) (by kernel_rfl)⟩
                            · refine gl_pure 4 [0, 4, 5, 6, 53] (K' := [(0, .string a0), (4, .slice A22 s18.1.length n23), (5, .int .i64 s18.2), (6, .int .u8 c38), (53, .bool (c38 == 127))]) (by kernel_rfl) ?_
                              refine gl_atE (by kernel_rfl) ?_
                              exact ge_mid fun t ht => ⟨(Imm.refl _), rfl, by rw [(show b126 = (c38 == 127) from hb127.trans (by rw [hc129]; try rfl))]; exact ht.pick (l := [0, 4, 5, 6, 53]) (by kernel_rfl)⟩
                          · rintro t I128 L' ⟨hI124, rfl, hK125⟩
                            subst hb127
                            refine ge_at hK125 ?_
                            refine ge_seq ?_
                            obtain ⟨j130, hj131, hj105⟩ := bind_some hj105
                            refine gk_join (fun t I' L' => ∃ A133 n134 C135, OwnS (Kd.int .u8) 5 I' A133 n134 j130 C135 ∧ I128 ≤ I' ∧ C135 ++ L = L' ∧ Knows 74 [(0, .string a0), (4, .slice A133 j130.length n134), (5, .int .i64 s18.2)] t) ?_ ?_
                            · refine gk_cond (b := ((decide (c38 < 32)) || (c38 == 127))) (by kernel_rfl) (by kernel_rfl) (fun hc139 => ?_) (fun hc139 => ?_)
                              · have hj131 := cond_t hc139 hj131
                                refine gk_draw 8 [(0, true), (1, true), (2, true), (3, true), (4, true), (5, true), (6, true), (7, false)] [] (fun p hp => by cases hp) (by kernel_rfl) (by kernel_rfl) (by kernel_rfl) ?_ (by kernel_rfl)
                                refine gd_pure 3 [0, 4, 5, 6, 60, 62] (K' := [(0, .string a0), (4, .slice A22 s18.1.length n23), (5, .int .i64 s18.2), (6, .int .u8 c38), (60, .slice A22 s18.1.length n23), (62, .int .u8 (IntKind.wrap .u8 (Int.tdiv c38 16)))]) (s' := [(3, true), (4, true), (5, true), (6, true), (7, false)]) (CC.refl (fun p hp => by cases hp)) (by kernel_rfl) ?_
                                obtain ⟨c140, hx141, hj131⟩ := bind_some hj131
                                refine gd_q (v := .int .u8 c140) (by kernel_rfl) (by kernel_rfl) (CC.refl (fun p hp => by cases hp)) (fun I' L' T hC kk => gl_index' (T' := 9) (xs := (.const (.string (⟨#[48, 49, 50, 51, 52, 53, 54, 55, 56, 57, 97, 98, 99, 100, 101, 102]⟩ : ByteArray)))) (xi := (.tmp 62)) (kd := .u8) hx141 (by kernel_rfl) (by kernel_rfl) (by kernel_rfl) (by kernel_rfl) (by kernel_rfl) kk) ?_
                                refine gd_pure 2 [0, 4, 5, 60, 63, 65] (K' := [(0, .string a0), (4, .slice A22 s18.1.length n23), (5, .int .i64 s18.2), (60, .slice A22 s18.1.length n23), (63, .int .u8 c140), (65, .int .u8 (Int.tmod c38 16))]) (s' := [(6, true), (7, false)]) (CC.refl (fun p hp => by cases hp)) (by kernel_rfl) ?_
                                obtain ⟨c142, hx143, hj131⟩ := bind_some hj131
                                refine gd_q (v := .int .u8 c142) (by kernel_rfl) (by kernel_rfl) (CC.refl (fun p hp => by cases hp)) (fun I' L' T hC kk => gl_index' (T' := 9) (xs := (.const (.string (⟨#[48, 49, 50, 51, 52, 53, 54, 55, 56, 57, 97, 98, 99, 100, 101, 102]⟩ : ByteArray)))) (xi := (.tmp 65)) (kd := .u8) hx143 (by kernel_rfl) (by kernel_rfl) (by kernel_rfl) (by kernel_rfl) (by kernel_rfl) kk) ?_
                                refine gd_one (by kernel_rfl) ?_
                                refine gl_buildSlice (T' := 41) (e := 5) (n := 1) (len := 4) (parts := #[(0, (.const (.int .u8 92))), (1, (.const (.int .u8 120))), (2, (.tmp 63)), (3, (.tmp 66))]) (l := [(0, .int .u8 92), (1, .int .u8 120), (2, .int .u8 c140), (3, .int .u8 c142)]) (cs := #[.int .u8 92, .int .u8 120, .int .u8 c140, .int .u8 c142]) (by kernel_rfl) (by kernel_rfl) (by kernel_rfl) (by kernel_rfl) (by kernel_rfl) (fun g144 => ?_)
                                have hO145 : OwnS (Kd.int .u8) 5 I128 (some ⟨g144, 0, none⟩) 4 [92, 120, c140, c142] [(g144, .cells #[.int .u8 92, .int .u8 120, .int .u8 c140, .int .u8 c142] 5)] := OwnS.lit (row_cons (l := [.int .u8 92]) rfl (row_cons (l := [.int .u8 120]) rfl (row_cons (l := [.int .u8 c140]) rfl (row_cons (l := [.int .u8 c142]) rfl (row_nil _ _))))) rfl rfl rfl
                                refine gl_reord (D := [(g144, .cells #[.int .u8 92, .int .u8 120, .int .u8 c140, .int .u8 c142] 5)] ++ (C24 ++ L)) (Reord.refl _) ?_
                                refine gl_toD (by kernel_rfl) ⟨(Imm.refl _), (fun p hp => by cases hp)⟩ ?_
                                refine gd_done ?_
                                obtain ⟨zs148, hz149, hj131⟩ := bind_some hj131
                                refine gl_append (xv := .slice (some ⟨g144, 0, none⟩) [92, 120, c140, c142].length 4) (d := (Kd.int .u8)) (t := 41) (tx := 41) (e := 5) (s := (.tmp 60)) (x := (.tmp 67)) (xs := s18.1) (fun X => [(g144, .cells #[.int .u8 92, .int .u8 120, .int .u8 c140, .int .u8 c142] 5)] ++ (X ++ L)) hz149 (by kernel_rfl) (by kernel_rfl) (by kernel_rfl) (by kernel_rfl) (by kernel_rfl) (by kernel_rfl) (fun X => (Upd.app _ (Upd.head _ X _))) (hO25.mono (Imm.trans hI40 hI124)) (SrcOk.slice (c := 4) (e := 5) (n := 1) (OwnS.rd hO145 (Upd.selfC _ _)) (by kernel_rfl)) (fun A150 n151 C152 hO153 => ?_)
                                refine gl_pure 1 [0, 4, 5] (K' := [(0, .string a0), (4, .slice A150 zs148.length n151), (5, .int .i64 s18.2)]) (by kernel_rfl) ?_
                                refine gl_reord (D := C152 ++ L) (Reord.step (Upd.app _ (Upd.rmC _ _)) (Reord.skipC (Reord.refl _))) ?_
                                refine gl_atE (by kernel_rfl) ?_
                                obtain rfl := some_inj hj131
                                exact ge_mid fun t ht => ⟨A150, n151, C152, hO153, (Imm.refl _), rfl, ht.pick (l := [0, 4, 5]) (by kernel_rfl)⟩
                              · have hj131 := cond_f hc139 hj131
                                refine gk_region (by kernel_rfl) ?_
                                refine gl_pure 2 [0, 5, 20, 21] (K' := [(0, .string a0), (5, .int .i64 s18.2), (20, .slice A22 s18.1.length n23), (21, .int .u8 c38)]) (by kernel_rfl) ?_
                                refine gl_buildSlice (T' := 41) (e := 5) (n := 1) (len := 1) (parts := #[(0, (.tmp 21))]) (l := [(0, .int .u8 c38)]) (cs := #[.int .u8 c38]) (by kernel_rfl) (by kernel_rfl) (by kernel_rfl) (by kernel_rfl) (by kernel_rfl) (fun g154 => ?_)
                                have hO155 : OwnS (Kd.int .u8) 5 I128 (some ⟨g154, 0, none⟩) 1 [c38] [(g154, .cells #[.int .u8 c38] 5)] := OwnS.lit (row_cons (l := [.int .u8 c38]) rfl (row_nil _ _)) rfl rfl rfl
                                refine gl_reord (D := [(g154, .cells #[.int .u8 c38] 5)] ++ (C24 ++ L)) (Reord.refl _) ?_
                                obtain ⟨zs158, hz159, hj131⟩ := bind_some hj131
                                refine gl_append (xv := .slice (some ⟨g154, 0, none⟩) [c38].length 1) (d := (Kd.int .u8)) (t := 41) (tx := 41) (e := 5) (s := (.tmp 20)) (x := (.tmp 22)) (xs := s18.1) (fun X => [(g154, .cells #[.int .u8 c38] 5)] ++ (X ++ L)) hz159 (by kernel_rfl) (by kernel_rfl) (by kernel_rfl) (by kernel_rfl) (by kernel_rfl) (by kernel_rfl) (fun X => (Upd.app _ (Upd.head _ X _))) (hO25.mono (Imm.trans hI40 hI124)) (SrcOk.slice (c := 1) (e := 5) (n := 1) (OwnS.rd hO155 (Upd.selfC _ _)) (by kernel_rfl)) (fun A160 n161 C162 hO163 => ?_)
                                refine gl_pure 1 [0, 4, 5] (K' := [(0, .string a0), (4, .slice A160 zs158.length n161), (5, .int .i64 s18.2)]) (by kernel_rfl) ?_
                                refine gl_reord (D := C162 ++ L) (Reord.step (Upd.app _ (Upd.rmC _ _)) (Reord.skipC (Reord.refl _))) ?_
                                refine gl_atE (by kernel_rfl) ?_
                                obtain rfl := some_inj hj131
                                exact ge_mid fun t ht => ⟨A160, n161, C162, hO163, (Imm.refl _), rfl, ht.pick (l := [0, 4, 5]) (by kernel_rfl)⟩
                            · rintro t I138 L' ⟨A133, n134, C135, hO136, hI132, rfl, hK137⟩
                              refine ge_at hK137 ?_
                              obtain rfl := some_inj hj105
                              exact ge_mid fun t ht => ⟨A133, n134, C135, hO136, (Imm.trans hI124 hI132), rfl, ht.pick (l := [0, 4, 5]) (by kernel_rfl)⟩
                      · rintro t I112 L' ⟨A107, n108, C109, hO110, hI106, rfl, hK111⟩
                        refine ge_at hK111 ?_
                        obtain rfl := some_inj hj85
                        exact ge_mid fun t ht => ⟨A107, n108, C109, hO110, hI106, rfl, ht.pick (l := [0, 4, 5]) (by kernel_rfl)⟩
                  · rintro t I92 L' ⟨A87, n88, C89, hO90, hI86, rfl, hK91⟩
                    refine ge_at hK91 ?_
                    obtain rfl := some_inj hj65
                    exact ge_mid fun t ht => ⟨A87, n88, C89, hO90, hI86, rfl, ht.pick (l := [0, 4, 5]) (by kernel_rfl)⟩
              · rintro t I72 L' ⟨A67, n68, C69, hO70, hI66, rfl, hK71⟩
                refine ge_at hK71 ?_
                obtain rfl := some_inj hj45
                exact ge_mid fun t ht => ⟨A67, n68, C69, hO70, hI66, rfl, ht.pick (l := [0, 4, 5]) (by kernel_rfl)⟩
          · rintro t I52 L' ⟨A47, n48, C49, hO50, hI46, rfl, hK51⟩
            refine ge_at hK51 ?_
            refine ge_block_normal ?_
            refine ge_block_normal ?_
            refine ge_seq ?_
            refine gk_region (by kernel_rfl) ?_
            refine gl_pure 3 [0, 4, 5] (K' := [(0, .string a0), (4, .slice A47 j44.length n48), (5, .int .i64 (IntKind.wrap .i64 (s18.2 + 1)))]) (by kernel_rfl) ?_
            refine gl_atE (by kernel_rfl) ?_
            obtain rfl := some_inj hb20
            exact ge_round fun t ht => ⟨A47, n48, C49, hO50, (Imm.trans (Imm.trans hI21 hI40) hI46), rfl, ht.pick (l := [0, 4, 5]) (by kernel_rfl)⟩
      · have hb20 := cond_f hc37 hb20
        refine gk_exit (by kernel_rfl) ?_
        refine ge_seq_exit ?_
        obtain rfl := some_inj hb20
        refine ge_round_out (fun hrr => ?_) (by intro h; cases h)
        obtain rfl := hrr
        refine ge_block_hit (by kernel_rfl) ?_
        exact ge_mid fun t ht => ⟨A22, n23, C24, hO25, hI21, rfl, ht.pick (l := [4]) (by kernel_rfl)⟩
    · rintro t I34 L' ⟨A29, n30, C31, hO32, hI28, rfl, hK33⟩
      refine ge_at hK33 ?_
      refine ge_seq ?_
      refine gk_seq (by kernel_rfl) ?_
      refine gk_region (by kernel_rfl) ?_
      refine gl_pure 1 [69] (K' := [(69, .slice A29 r16.length n30)]) (by kernel_rfl) ?_
      refine gl_buildSlice (T' := 41) (e := 5) (n := 1) (len := 1) (parts := #[(0, (.const (.int .u8 34)))]) (l := [(0, .int .u8 34)]) (cs := #[.int .u8 34]) (by kernel_rfl) (by kernel_rfl) (by kernel_rfl) (by kernel_rfl) (by kernel_rfl) (fun g164 => ?_)
      have hO165 : OwnS (Kd.int .u8) 5 I34 (some ⟨g164, 0, none⟩) 1 [34] [(g164, .cells #[.int .u8 34] 5)] := OwnS.lit (row_cons (l := [.int .u8 34]) rfl (row_nil _ _)) rfl rfl rfl
      refine gl_reord (D := [(g164, .cells #[.int .u8 34] 5)] ++ (C31 ++ L)) (Reord.refl _) ?_
      obtain ⟨zs168, hz169, hr⟩ := bind_some hr
      refine gl_append (xv := .slice (some ⟨g164, 0, none⟩) [34].length 1) (d := (Kd.int .u8)) (t := 41) (tx := 41) (e := 5) (s := (.tmp 69)) (x := (.tmp 70)) (xs := r16) (fun X => [(g164, .cells #[.int .u8 34] 5)] ++ (X ++ L)) hz169 (by kernel_rfl) (by kernel_rfl) (by kernel_rfl) (by kernel_rfl) (by kernel_rfl) (by kernel_rfl) (fun X => (Upd.app _ (Upd.head _ X _))) hO32 (SrcOk.slice (c := 1) (e := 5) (n := 1) (OwnS.rd hO165 (Upd.selfC _ _)) (by kernel_rfl)) (fun A170 n171 C172 hO173 => ?_)
      refine gl_pure 1 [4] (K' := [(4, .slice A170 zs168.length n171)]) (by kernel_rfl) ?_
      refine gl_atE (by kernel_rfl) ?_
      refine ge_seq ?_
      refine gk_seq (by kernel_rfl) ?_
      refine gk_region (by kernel_rfl) ?_
      refine gl_pure 1 [72] (K' := [(72, .slice A170 zs168.length n171)]) (by kernel_rfl) ?_
      refine gl_bytesStr (c := n171) (src := 41) (dst := 9) (e := 5) (n := 1) (x := (.tmp 72)) (by kernel_rfl) (by kernel_rfl) (by kernel_rfl) (by kernel_rfl) (by kernel_rfl) (by kernel_rfl) (OwnS.rd hO173 (Upd.app _ (Upd.selfC _ _))) ?_
      refine gl_pure 2 [2, 3] (K' := [(2, .string (ofBytes zs168)), (3, .int .i64 0)]) (by kernel_rfl) ?_
      refine gl_atE (by kernel_rfl) ?_
      refine ge_seq ?_
      refine gk_reord (D := L) (Reord.skipC (Reord.skipC (Reord.refl _))) ?_
      refine gk_ret (by kernel_rfl) ?_
      obtain rfl := some_inj hr
      exact ge_result trivial (ResOk.tmp (by kernel_rfl) (ResOk.tmp (by kernel_rfl) ResOk.nil)) hI28 ⟨rfl, rfl⟩
/-! 43 tocsinref13_letter  -/
noncomputable def tocsinref13_letter (a0 : Int) : Bool :=
  (((((decide (a0 ≥ 97)) && (decide (a0 ≤ 122))) || ((decide (a0 ≥ 65)) && (decide (a0 ≤ 90)))) || (a0 == 95)) || (a0 == 58))
theorem tocsinref13_letter_walk {a0 : Int} {I : Imm} {r : Bool}  (hr : tocsinref13_letter a0 = r) (L : Own) :
    CallsTo Tryd.prog 43 #[.int .u8 a0] I L (fun v I' L' => v = .bool r ∧ L = L') := by
  replace hr : some (tocsinref13_letter a0) = some r := congrArg some hr
  unfold tocsinref13_letter at hr
  refine callsTo_body (N := 25) Tryd.func43 (by kernel_rfl) (by kernel_rfl) (by kernel_rfl) ?_
  refine gk_pick [0] (K' := [(0, .int .u8 a0)]) (by kernel_rfl) ?_
  refine gk_seq (by kernel_rfl) ?_
  refine gk_region (by kernel_rfl) ?_
  refine gl_pure 1 [0] (K' := [(0, .int .u8 a0)]) (by kernel_rfl) ?_
  refine gl_atE (by kernel_rfl) ?_
  refine ge_seq ?_
  refine gk_seq (by kernel_rfl) ?_
  obtain ⟨b3, hb4⟩ : ∃ z, z = (((((decide (a0 ≥ 97)) && (decide (a0 ≤ 122))) || ((decide (a0 ≥ 65)) && (decide (a0 ≤ 90)))) || (a0 == 95)) || (a0 == 58)) := ⟨_, rfl⟩
  refine gk_join (fun t I' L' => I ≤ I' ∧ L = L' ∧ Knows 25 [(2, .bool b3)] t) ?_ ?_
  · refine gk_region (by kernel_rfl) ?_
    refine gl_pure 3 [0, 5] (K' := [(0, .int .u8 a0), (5, .bool (decide (a0 ≥ 97)))]) (by kernel_rfl) ?_
    refine gl_case 5 (b := (decide (a0 ≥ 97))) (by kernel_rfl) (fun hc6 => ?_) (fun hc6 => ?_)
    · refine gl_pure 4 [0, 9] (K' := [(0, .int .u8 a0), (9, .bool (decide (a0 ≤ 122)))]) (by kernel_rfl) ?_
      refine gl_case 9 (b := (decide (a0 ≤ 122))) (by kernel_rfl) (fun hc7 => ?_) (fun hc7 => ?_)
      · refine gl_pure 16 [2] (K' := [(2, .bool true)]) (by kernel_rfl) ?_
        refine gl_atE (by kernel_rfl) ?_
        exact ge_mid fun t ht => ⟨(Imm.refl _), rfl, by rw [(show b3 = true from hb4.trans (by rw [hc6, hc7]; try rfl))]; exact ht.pick (l := [2]) (by kernel_rfl)⟩
      · refine gl_pure 3 [0, 9, 12] (K' := [(0, .int .u8 a0), (9, .bool false), (12, .bool (decide (a0 ≥ 65)))]) (by kernel_rfl) ?_
        refine gl_case 12 (b := (decide (a0 ≥ 65))) (by kernel_rfl) (fun hc8 => ?_) (fun hc8 => ?_)
        · refine gl_pure 5 [0, 17] (K' := [(0, .int .u8 a0), (17, .bool (decide (a0 ≤ 90)))]) (by kernel_rfl) ?_
          refine gl_case 17 (b := (decide (a0 ≤ 90))) (by kernel_rfl) (fun hc9 => ?_) (fun hc9 => ?_)
          · refine gl_pure 8 [2] (K' := [(2, .bool true)]) (by kernel_rfl) ?_
            refine gl_atE (by kernel_rfl) ?_
            exact ge_mid fun t ht => ⟨(Imm.refl _), rfl, by rw [(show b3 = true from hb4.trans (by rw [hc6, hc7, hc8, hc9]; try rfl))]; exact ht.pick (l := [2]) (by kernel_rfl)⟩
          · refine gl_pure 4 [0, 21] (K' := [(0, .int .u8 a0), (21, .bool (a0 == 95))]) (by kernel_rfl) ?_
            refine gl_case 21 (b := (a0 == 95)) (by kernel_rfl) (fun hc10 => ?_) (fun hc10 => ?_)
            · refine gl_pure 4 [2] (K' := [(2, .bool true)]) (by kernel_rfl) ?_
              refine gl_atE (by kernel_rfl) ?_
              exact ge_mid fun t ht => ⟨(Imm.refl _), rfl, by rw [(show b3 = true from hb4.trans (by rw [hc6, hc7, hc8, hc9, hc10]; try rfl))]; exact ht.pick (l := [2]) (by kernel_rfl)⟩
            · refine gl_pure 4 [2] (K' := [(2, .bool (a0 == 58))]) (by kernel_rfl) ?_
              refine gl_atE (by kernel_rfl) ?_
              exact ge_mid fun t ht => ⟨(Imm.refl _), rfl, by rw [(show b3 = (a0 == 58) from hb4.trans (by rw [hc6, hc7, hc8, hc9, hc10]; try rfl))]; exact ht.pick (l := [2]) (by kernel_rfl)⟩
        · refine gl_pure 9 [0, 21] (K' := [(0, .int .u8 a0), (21, .bool (a0 == 95))]) (by kernel_rfl) ?_
          refine gl_case 21 (b := (a0 == 95)) (by kernel_rfl) (fun hc11 => ?_) (fun hc11 => ?_)
          · refine gl_pure 4 [2] (K' := [(2, .bool true)]) (by kernel_rfl) ?_
            refine gl_atE (by kernel_rfl) ?_
            exact ge_mid fun t ht => ⟨(Imm.refl _), rfl, by rw [(show b3 = true from hb4.trans (by rw [hc6, hc7, hc8, hc11]; try rfl))]; exact ht.pick (l := [2]) (by kernel_rfl)⟩
          · refine gl_pure 4 [2] (K' := [(2, .bool (a0 == 58))]) (by kernel_rfl) ?_
            refine gl_atE (by kernel_rfl) ?_
            exact ge_mid fun t ht => ⟨(Imm.refl _), rfl, by rw [(show b3 = (a0 == 58) from hb4.trans (by rw [hc6, hc7, hc8, hc11]; try rfl))]; exact ht.pick (l := [2]) (by kernel_rfl)⟩
    · refine gl_pure 7 [0, 9, 12] (K' := [(0, .int .u8 a0), (9, .bool false), (12, .bool (decide (a0 ≥ 65)))]) (by kernel_rfl) ?_
      refine gl_case 12 (b := (decide (a0 ≥ 65))) (by kernel_rfl) (fun hc12 => ?_) (fun hc12 => ?_)
      · refine gl_pure 5 [0, 17] (K' := [(0, .int .u8 a0), (17, .bool (decide (a0 ≤ 90)))]) (by kernel_rfl) ?_
        refine gl_case 17 (b := (decide (a0 ≤ 90))) (by kernel_rfl) (fun hc13 => ?_) (fun hc13 => ?_)
        · refine gl_pure 8 [2] (K' := [(2, .bool true)]) (by kernel_rfl) ?_
          refine gl_atE (by kernel_rfl) ?_
          exact ge_mid fun t ht => ⟨(Imm.refl _), rfl, by rw [(show b3 = true from hb4.trans (by rw [hc6, hc12, hc13]; try rfl))]; exact ht.pick (l := [2]) (by kernel_rfl)⟩
        · refine gl_pure 4 [0, 21] (K' := [(0, .int .u8 a0), (21, .bool (a0 == 95))]) (by kernel_rfl) ?_
          refine gl_case 21 (b := (a0 == 95)) (by kernel_rfl) (fun hc14 => ?_) (fun hc14 => ?_)
          · refine gl_pure 4 [2] (K' := [(2, .bool true)]) (by kernel_rfl) ?_
            refine gl_atE (by kernel_rfl) ?_
            exact ge_mid fun t ht => ⟨(Imm.refl _), rfl, by rw [(show b3 = true from hb4.trans (by rw [hc6, hc12, hc13, hc14]; try rfl))]; exact ht.pick (l := [2]) (by kernel_rfl)⟩
          · refine gl_pure 4 [2] (K' := [(2, .bool (a0 == 58))]) (by kernel_rfl) ?_
            refine gl_atE (by kernel_rfl) ?_
            exact ge_mid fun t ht => ⟨(Imm.refl _), rfl, by rw [(show b3 = (a0 == 58) from hb4.trans (by rw [hc6, hc12, hc13, hc14]; try rfl))]; exact ht.pick (l := [2]) (by kernel_rfl)⟩
      · refine gl_pure 9 [0, 21] (K' := [(0, .int .u8 a0), (21, .bool (a0 == 95))]) (by kernel_rfl) ?_
        refine gl_case 21 (b := (a0 == 95)) (by kernel_rfl) (fun hc15 => ?_) (fun hc15 => ?_)
        · refine gl_pure 4 [2] (K' := [(2, .bool true)]) (by kernel_rfl) ?_
          refine gl_atE (by kernel_rfl) ?_
          exact ge_mid fun t ht => ⟨(Imm.refl _), rfl, by rw [(show b3 = true from hb4.trans (by rw [hc6, hc12, hc15]; try rfl))]; exact ht.pick (l := [2]) (by kernel_rfl)⟩
        · refine gl_pure 4 [2] (K' := [(2, .bool (a0 == 58))]) (by kernel_rfl) ?_
          refine gl_atE (by kernel_rfl) ?_
          exact ge_mid fun t ht => ⟨(Imm.refl _), rfl, by rw [(show b3 = (a0 == 58) from hb4.trans (by rw [hc6, hc12, hc15]; try rfl))]; exact ht.pick (l := [2]) (by kernel_rfl)⟩
  · rintro t I5 L' ⟨hI1, rfl, hK2⟩
    subst hb4
    refine ge_at hK2 ?_
    refine ge_seq ?_
    refine gk_ret (by kernel_rfl) ?_
    obtain rfl := some_inj hr
    exact ge_result trivial (ResOk.tmp (by kernel_rfl) ResOk.nil) hI1 ⟨rfl, rfl⟩
/-! 44 tocsinref13_digit  -/
noncomputable def tocsinref13_digit (a0 : Int) : Bool :=
  ((decide (a0 ≥ 48)) && (decide (a0 ≤ 57)))
theorem tocsinref13_digit_walk {a0 : Int} {I : Imm} {r : Bool}  (hr : tocsinref13_digit a0 = r) (L : Own) :
    CallsTo Tryd.prog 44 #[.int .u8 a0] I L (fun v I' L' => v = .bool r ∧ L = L') := by
  replace hr : some (tocsinref13_digit a0) = some r := congrArg some hr
  unfold tocsinref13_digit at hr
  refine callsTo_body (N := 9) Tryd.func44 (by kernel_rfl) (by kernel_rfl) (by kernel_rfl) ?_
  refine gk_pick [0] (K' := [(0, .int .u8 a0)]) (by kernel_rfl) ?_
  refine gk_seq (by kernel_rfl) ?_
  refine gk_region (by kernel_rfl) ?_
  refine gl_pure 1 [0] (K' := [(0, .int .u8 a0)]) (by kernel_rfl) ?_
  refine gl_atE (by kernel_rfl) ?_
  refine ge_seq ?_
  refine gk_seq (by kernel_rfl) ?_
  obtain ⟨b3, hb4⟩ : ∃ z, z = ((decide (a0 ≥ 48)) && (decide (a0 ≤ 57))) := ⟨_, rfl⟩
  refine gk_join (fun t I' L' => I ≤ I' ∧ L = L' ∧ Knows 9 [(2, .bool b3)] t) ?_ ?_
  · refine gk_region (by kernel_rfl) ?_
    refine gl_pure 3 [0, 5] (K' := [(0, .int .u8 a0), (5, .bool (decide (a0 ≥ 48)))]) (by kernel_rfl) ?_
    refine gl_case 5 (b := (decide (a0 ≥ 48))) (by kernel_rfl) (fun hc6 => ?_) (fun hc6 => ?_)
    · refine gl_pure 4 [2] (K' := [(2, .bool (decide (a0 ≤ 57)))]) (by kernel_rfl) ?_
      refine gl_atE (by kernel_rfl) ?_
      exact ge_mid fun t ht => ⟨(Imm.refl _), rfl, by rw [(show b3 = (decide (a0 ≤ 57)) from hb4.trans (by rw [hc6]; try rfl))]; exact ht.pick (l := [2]) (by kernel_rfl)⟩
    · refine gl_pure 4 [2] (K' := [(2, .bool false)]) (by kernel_rfl) ?_
      refine gl_atE (by kernel_rfl) ?_
      exact ge_mid fun t ht => ⟨(Imm.refl _), rfl, by rw [(show b3 = false from hb4.trans (by rw [hc6]; try rfl))]; exact ht.pick (l := [2]) (by kernel_rfl)⟩
  · rintro t I5 L' ⟨hI1, rfl, hK2⟩
    subst hb4
    refine ge_at hK2 ?_
    refine ge_seq ?_
    refine gk_ret (by kernel_rfl) ?_
    obtain rfl := some_inj hr
    exact ge_result trivial (ResOk.tmp (by kernel_rfl) ResOk.nil) hI1 ⟨rfl, rfl⟩
/-! 59 tocsinref13_hex  -/
noncomputable def tocsinref13_hex (a0 : Int) : Bool :=
  (((tocsinref13_digit a0) || ((decide (a0 ≥ 97)) && (decide (a0 ≤ 102)))) || ((decide (a0 ≥ 65)) && (decide (a0 ≤ 70))))
theorem tocsinref13_hex_walk {a0 : Int} {I : Imm} {r : Bool}  (hr : tocsinref13_hex a0 = r) (L : Own) :
    CallsTo Tryd.prog 59 #[.int .u8 a0] I L (fun v I' L' => v = .bool r ∧ L = L') := by
  replace hr : some (tocsinref13_hex a0) = some r := congrArg some hr
  unfold tocsinref13_hex at hr
  refine callsTo_body (N := 21) Tryd.func59 (by kernel_rfl) (by kernel_rfl) (by kernel_rfl) ?_
  refine gk_pick [0] (K' := [(0, .int .u8 a0)]) (by kernel_rfl) ?_
  refine gk_seq (by kernel_rfl) ?_
  refine gk_region (by kernel_rfl) ?_
  refine gl_pure 1 [0] (K' := [(0, .int .u8 a0)]) (by kernel_rfl) ?_
  refine gl_atE (by kernel_rfl) ?_
  refine ge_seq ?_
  refine gk_seq (by kernel_rfl) ?_
  obtain ⟨b3, hb4⟩ : ∃ z, z = (((tocsinref13_digit a0) || ((decide (a0 ≥ 97)) && (decide (a0 ≤ 102)))) || ((decide (a0 ≥ 65)) && (decide (a0 ≤ 70)))) := ⟨_, rfl⟩
  refine gk_join (fun t I' L' => I ≤ I' ∧ L = L' ∧ Knows 21 [(2, .bool b3)] t) ?_ ?_
  · refine gk_region (by kernel_rfl) ?_
    refine gl_pure 1 [0, 3] (K' := [(0, .int .u8 a0), (3, .int .u8 a0)]) (by kernel_rfl) ?_
    refine gl_callQ (by kernel_rfl) (tocsinref13_digit_walk (r := (tocsinref13_digit a0))  rfl _) ?_
    refine gl_pure 1 [0, 5] (K' := [(0, .int .u8 a0), (5, .bool (tocsinref13_digit a0))]) (by kernel_rfl) ?_
    refine gl_case 5 (b := (tocsinref13_digit a0)) (by kernel_rfl) (fun hc6 => ?_) (fun hc6 => ?_)
    · refine gl_pure 16 [2] (K' := [(2, .bool true)]) (by kernel_rfl) ?_
      refine gl_atE (by kernel_rfl) ?_
      exact ge_mid fun t ht => ⟨(Imm.refl _), rfl, by rw [(show b3 = true from hb4.trans (by rw [hc6]; try rfl))]; exact ht.pick (l := [2]) (by kernel_rfl)⟩
    · refine gl_pure 3 [0, 5, 8] (K' := [(0, .int .u8 a0), (5, .bool false), (8, .bool (decide (a0 ≥ 97)))]) (by kernel_rfl) ?_
      refine gl_case 8 (b := (decide (a0 ≥ 97))) (by kernel_rfl) (fun hc7 => ?_) (fun hc7 => ?_)
      · refine gl_pure 5 [0, 13] (K' := [(0, .int .u8 a0), (13, .bool (decide (a0 ≤ 102)))]) (by kernel_rfl) ?_
        refine gl_case 13 (b := (decide (a0 ≤ 102))) (by kernel_rfl) (fun hc8 => ?_) (fun hc8 => ?_)
        · refine gl_pure 8 [2] (K' := [(2, .bool true)]) (by kernel_rfl) ?_
          refine gl_atE (by kernel_rfl) ?_
          exact ge_mid fun t ht => ⟨(Imm.refl _), rfl, by rw [(show b3 = true from hb4.trans (by rw [hc6, hc7, hc8]; try rfl))]; exact ht.pick (l := [2]) (by kernel_rfl)⟩
        · refine gl_pure 3 [0, 13, 16] (K' := [(0, .int .u8 a0), (13, .bool false), (16, .bool (decide (a0 ≥ 65)))]) (by kernel_rfl) ?_
          refine gl_case 16 (b := (decide (a0 ≥ 65))) (by kernel_rfl) (fun hc9 => ?_) (fun hc9 => ?_)
          · refine gl_pure 5 [2] (K' := [(2, .bool (decide (a0 ≤ 70)))]) (by kernel_rfl) ?_
            refine gl_atE (by kernel_rfl) ?_
            exact ge_mid fun t ht => ⟨(Imm.refl _), rfl, by rw [(show b3 = (decide (a0 ≤ 70)) from hb4.trans (by rw [hc6, hc7, hc8, hc9]; try rfl))]; exact ht.pick (l := [2]) (by kernel_rfl)⟩
          · refine gl_pure 5 [2] (K' := [(2, .bool false)]) (by kernel_rfl) ?_
            refine gl_atE (by kernel_rfl) ?_
            exact ge_mid fun t ht => ⟨(Imm.refl _), rfl, by rw [(show b3 = false from hb4.trans (by rw [hc6, hc7, hc8, hc9]; try rfl))]; exact ht.pick (l := [2]) (by kernel_rfl)⟩
      · refine gl_pure 8 [0, 13, 16] (K' := [(0, .int .u8 a0), (13, .bool false), (16, .bool (decide (a0 ≥ 65)))]) (by kernel_rfl) ?_
        refine gl_case 16 (b := (decide (a0 ≥ 65))) (by kernel_rfl) (fun hc10 => ?_) (fun hc10 => ?_)
        · refine gl_pure 5 [2] (K' := [(2, .bool (decide (a0 ≤ 70)))]) (by kernel_rfl) ?_
          refine gl_atE (by kernel_rfl) ?_
          exact ge_mid fun t ht => ⟨(Imm.refl _), rfl, by rw [(show b3 = (decide (a0 ≤ 70)) from hb4.trans (by rw [hc6, hc7, hc10]; try rfl))]; exact ht.pick (l := [2]) (by kernel_rfl)⟩
        · refine gl_pure 5 [2] (K' := [(2, .bool false)]) (by kernel_rfl) ?_
          refine gl_atE (by kernel_rfl) ?_
          exact ge_mid fun t ht => ⟨(Imm.refl _), rfl, by rw [(show b3 = false from hb4.trans (by rw [hc6, hc7, hc10]; try rfl))]; exact ht.pick (l := [2]) (by kernel_rfl)⟩
  · rintro t I5 L' ⟨hI1, rfl, hK2⟩
    subst hb4
    refine ge_at hK2 ?_
    refine ge_seq ?_
    refine gk_ret (by kernel_rfl) ?_
    obtain rfl := some_inj hr
    exact ge_result trivial (ResOk.tmp (by kernel_rfl) ResOk.nil) hI1 ⟨rfl, rfl⟩
/-! 45 tocsinref13_text  -/
noncomputable def tocsinref13_text_l27 (a0 : ByteArray) (a1 : Int) (c1 : Int) : ((List Int) × Int) → Option (((List Int) × Int) ⊕ ((Unit) ⊕ (ByteArray × Int × Bool))) := fun s13 =>
  bif (decide (s13.2 < (a0.size : Int))) then
  (Option.bind ((Option.bind (bx a0 s13.2) fun (c40 : Int) =>
      bif (c40 == c1) then
      (Option.bind (Option.bind (tocsinref01_Utf8 (ofBytes s13.1)) fun (y48 : Bool) =>
          bif y48 then
          (Option.bind (sx a0 a1 s13.2) fun (s52 : ByteArray) =>
            Option.bind (tocsinref01_Utf8 s52) fun (y53 : Bool) =>
            some ((ofBytes s13.1), (IntKind.wrap .i64 (s13.2 + 1)), y53))
          else
          (some ((ofBytes s13.1), (IntKind.wrap .i64 (s13.2 + 1)), false))) fun (j43 : ByteArray × Int × Bool) =>
        some (Sum.inr (Sum.inr (Sum.inr (j43.1, j43.2.1, j43.2.2)))))
      else
      (bif (c40 == 10) then
        (some (Sum.inr (Sum.inr (Sum.inr ((⟨#[]⟩ : ByteArray), 0, false)))))
        else
        (bif (c40 != 92) then
          (Option.bind (app s13.1 [c40]) fun (zs61 : List Int) =>
            some (Sum.inl (zs61, s13.2)))
          else
          (bif (decide ((IntKind.wrap .i64 (s13.2 + 1)) ≥ (a0.size : Int))) then
            (some (Sum.inr (Sum.inr (Sum.inr ((⟨#[]⟩ : ByteArray), 0, false)))))
            else
            (Option.bind (bx a0 (IntKind.wrap .i64 (s13.2 + 1))) fun (c68 : Int) =>
              Option.bind (bif (c68 == 92) then
                (some (c68 == 92))
                else
                (Option.bind (bif (c68 == 34) then
                    (some (c68 == 34))
                    else
                    (some (c68 == 39))) fun (j76 : Bool) =>
                  some j76)) fun (j70 : Bool) =>
              Option.bind ((bif j70 then
                (Option.bind (bx a0 (IntKind.wrap .i64 (s13.2 + 1))) fun (c93 : Int) =>
                  Option.bind (app s13.1 [c93]) fun (zs99 : List Int) =>
                  some (Sum.inl (zs99, (IntKind.wrap .i64 (s13.2 + 1)))))
                else
                (Option.bind ((bif (c68 == 110) then
                    (Option.bind (app s13.1 [10]) fun (zs120 : List Int) =>
                      some (Sum.inl (zs120, (IntKind.wrap .i64 (s13.2 + 1)))))
                    else
                    (Option.bind ((bif (c68 == 116) then
                        (Option.bind (app s13.1 [9]) fun (zs141 : List Int) =>
                          some (Sum.inl (zs141, (IntKind.wrap .i64 (s13.2 + 1)))))
                        else
                        (Option.bind ((bif (c68 == 114) then
                            (Option.bind (app s13.1 [13]) fun (zs162 : List Int) =>
                              some (Sum.inl (zs162, (IntKind.wrap .i64 (s13.2 + 1)))))
                            else
                            (bif (c68 == 120) then
                              (Option.bind (bif (decide ((IntKind.wrap .i64 ((IntKind.wrap .i64 (s13.2 + 1)) + 2)) ≥ (a0.size : Int))) then
                                  (some true)
                                  else
                                  (Option.bind (bx a0 (IntKind.wrap .i64 ((IntKind.wrap .i64 (s13.2 + 1)) + 1))) fun (c175 : Int) =>
                                    bif (!(tocsinref13_hex c175)) then
                                    (some true)
                                    else
                                    (Option.bind (bx a0 (IntKind.wrap .i64 ((IntKind.wrap .i64 (s13.2 + 1)) + 2))) fun (c178 : Int) =>
                                      bif (!(tocsinref13_hex c178)) then
                                      (some true)
                                      else
                                      (Option.bind (bx a0 (IntKind.wrap .i64 ((IntKind.wrap .i64 (s13.2 + 1)) + 1))) fun (c181 : Int) =>
                                        some (decide (c181 > 55)))))) fun (j169 : Bool) =>
                                bif j169 then
                                (some (Sum.inr (Sum.inr (Sum.inr (Sum.inr (Sum.inr (Sum.inr (Sum.inr ((⟨#[]⟩ : ByteArray), 0, false)))))))))
                                else
                                (Option.bind (sx a0 (IntKind.wrap .i64 ((IntKind.wrap .i64 (s13.2 + 1)) + 1)) (IntKind.wrap .i64 ((IntKind.wrap .i64 (s13.2 + 1)) + 3))) fun (s185 : ByteArray) =>
                                  Option.bind (strconv_ParseUint s185 16 8) fun (y186 : Int × Unit) =>
                                  Option.bind (app s13.1 [(IntKind.wrap .u8 y186.1)]) fun (zs192 : List Int) =>
                                  some (Sum.inl (zs192, (IntKind.wrap .i64 ((IntKind.wrap .i64 (s13.2 + 1)) + 2))))))
                              else
                              (some (Sum.inr (Sum.inr (Sum.inr (Sum.inr (Sum.inr (Sum.inr (Sum.inr ((⟨#[]⟩ : ByteArray), 0, false)))))))))) : Option (((List Int) × Int) ⊕ (((List Int) × Int) ⊕ (((List Int) × Int) ⊕ (((List Int) × Int) ⊕ (((List Int) × Int) ⊕ (((List Int) × Int) ⊕ ((Unit) ⊕ (ByteArray × Int × Bool)))))))))) fun (j147 : ((List Int) × Int) ⊕ (((List Int) × Int) ⊕ (((List Int) × Int) ⊕ (((List Int) × Int) ⊕ (((List Int) × Int) ⊕ (((List Int) × Int) ⊕ ((Unit) ⊕ (ByteArray × Int × Bool)))))))) =>
                          match j147 with
                          | Sum.inl j149 => some (Sum.inl (j149.1, j149.2))
                          | Sum.inr v198 => some v198) : Option (((List Int) × Int) ⊕ (((List Int) × Int) ⊕ (((List Int) × Int) ⊕ (((List Int) × Int) ⊕ (((List Int) × Int) ⊕ ((Unit) ⊕ (ByteArray × Int × Bool))))))))) fun (j126 : ((List Int) × Int) ⊕ (((List Int) × Int) ⊕ (((List Int) × Int) ⊕ (((List Int) × Int) ⊕ (((List Int) × Int) ⊕ ((Unit) ⊕ (ByteArray × Int × Bool))))))) =>
                      match j126 with
                      | Sum.inl j128 => some (Sum.inl (j128.1, j128.2))
                      | Sum.inr v199 => some v199) : Option (((List Int) × Int) ⊕ (((List Int) × Int) ⊕ (((List Int) × Int) ⊕ (((List Int) × Int) ⊕ ((Unit) ⊕ (ByteArray × Int × Bool)))))))) fun (j105 : ((List Int) × Int) ⊕ (((List Int) × Int) ⊕ (((List Int) × Int) ⊕ (((List Int) × Int) ⊕ ((Unit) ⊕ (ByteArray × Int × Bool)))))) =>
                  match j105 with
                  | Sum.inl j107 => some (Sum.inl (j107.1, j107.2))
                  | Sum.inr v200 => some v200) : Option (((List Int) × Int) ⊕ (((List Int) × Int) ⊕ (((List Int) × Int) ⊕ ((Unit) ⊕ (ByteArray × Int × Bool))))))) fun (j82 : ((List Int) × Int) ⊕ (((List Int) × Int) ⊕ (((List Int) × Int) ⊕ ((Unit) ⊕ (ByteArray × Int × Bool))))) =>
              match j82 with
              | Sum.inl j84 => some (Sum.inl (j84.1, j84.2))
              | Sum.inr v201 => some v201)))) : Option (((List Int) × Int) ⊕ (((List Int) × Int) ⊕ ((Unit) ⊕ (ByteArray × Int × Bool)))))) fun (j30 : ((List Int) × Int) ⊕ (((List Int) × Int) ⊕ ((Unit) ⊕ (ByteArray × Int × Bool)))) =>
    match j30 with
    | Sum.inl j32 => some (Sum.inl (j32.1, (IntKind.wrap .i64 (j32.2 + 1))))
    | Sum.inr v202 => some v202)
  else
  (some (Sum.inr (Sum.inl ())))
noncomputable def tocsinref13_text (a0 : ByteArray) (a1 : Int) : Option (ByteArray × Int × Bool) :=
  Option.bind (bx a0 a1) fun (c1 : Int) =>
  Option.bind (loopO (tocsinref13_text_l27 a0 a1 c1) ([], (IntKind.wrap .i64 (a1 + 1)))) fun (r11 : (Unit) ⊕ (ByteArray × Int × Bool)) =>
  match r11 with
  | Sum.inl r23 => some ((⟨#[]⟩ : ByteArray), 0, false)
  | Sum.inr v203 => some v203
theorem tocsinref13_text_walk {a0 : ByteArray} {a1 : Int} {I : Imm} {r : ByteArray × Int × Bool}  (hr : tocsinref13_text a0 a1 = some r) (L : Own) :
    CallsTo Tryd.prog 45 #[.string a0, .int .i64 a1] I L (fun v I' L' => v = .tuple #[.string r.1, .int .i64 r.2.1, .bool r.2.2] ∧ L = L') := by
  unfold tocsinref13_text at hr
  refine callsTo_body (N := 133) Tryd.func45 (by kernel_rfl) (by kernel_rfl) (by kernel_rfl) ?_
  refine gk_pick [0, 1] (K' := [(0, .string a0), (1, .int .i64 a1)]) (by kernel_rfl) ?_
  refine gk_seq (by kernel_rfl) ?_
  refine gk_region (by kernel_rfl) ?_
  refine gl_pure 3 [0, 1] (K' := [(0, .string a0), (1, .int .i64 a1)]) (by kernel_rfl) ?_
  refine gl_atE (by kernel_rfl) ?_
  refine ge_seq ?_
  refine gk_seq (by kernel_rfl) ?_
  refine gk_region (by kernel_rfl) ?_
  refine gl_pure 2 [0, 1, 13, 14] (K' := [(0, .string a0), (1, .int .i64 a1), (13, .string a0), (14, .int .i64 a1)]) (by kernel_rfl) ?_
  obtain ⟨c1, hx2, hr⟩ := bind_some hr
  refine gl_index' (T' := 9) (xs := (.tmp 13)) (xi := (.tmp 14)) (kd := .i64) hx2 (by kernel_rfl) (by kernel_rfl) (by kernel_rfl) (by kernel_rfl) (by kernel_rfl) ?_
  refine gl_pure 1 [0, 1, 7] (K' := [(0, .string a0), (1, .int .i64 a1), (7, .int .u8 c1)]) (by kernel_rfl) ?_
  refine gl_atE (by kernel_rfl) ?_
  refine ge_seq ?_
  refine gk_seq (by kernel_rfl) ?_
  refine gk_region (by kernel_rfl) ?_
  refine gl_pure 1 [0, 1, 7, 8] (K' := [(0, .string a0), (1, .int .i64 a1), (7, .int .u8 c1), (8, .slice none 0 0)]) (by kernel_rfl) ?_
  refine gl_atE (by kernel_rfl) ?_
  refine ge_seq ?_
  refine gk_seq (by kernel_rfl) ?_
  refine gk_seq (by kernel_rfl) ?_
  refine gk_region (by kernel_rfl) ?_
  refine gl_pure 3 [0, 1, 7, 8, 9] (K' := [(0, .string a0), (1, .int .i64 a1), (7, .int .u8 c1), (8, .slice none 0 0), (9, .int .i64 (IntKind.wrap .i64 (a1 + 1)))]) (by kernel_rfl) ?_
  refine gl_atE (by kernel_rfl) ?_
  refine ge_seq ?_
  obtain ⟨r11, hl12, hr⟩ := bind_some hr
  refine gk_join (fun t I' L' => ∃ r23, r11 = Sum.inl r23 ∧ I ≤ I' ∧ L = L' ∧ Knows 133 [] t) ?_ ?_
  · refine gk_block (by kernel_rfl) ?_
    refine gk_pick [0, 1, 7, 8, 9] (K' := [(0, .string a0), (1, .int .i64 a1), (7, .int .u8 c1), (8, .slice none 0 0), (9, .int .i64 (IntKind.wrap .i64 (a1 + 1)))]) (by kernel_rfl) ?_
    intro t hK
    refine gc_loop (tocsinref13_text_l27 a0 a1 c1) (fun s13 t I' L' => ∃ A17 n18 C19, OwnS (Kd.int .u8) 5 I' A17 n18 s13.1 C19 ∧ I ≤ I' ∧ C19 ++ L = L' ∧ Knows 133 [(0, .string a0), (1, .int .i64 a1), (7, .int .u8 c1), (8, .slice A17 s13.1.length n18), (9, .int .i64 s13.2)] t) (by kernel_rfl) ?_ hl12 ⟨none, 0, [], OwnS.nil _ _ _ _, (Imm.refl _), rfl, hK⟩
    rintro s13 o14 t I22 L' hb15 ⟨A17, n18, C19, hO20, hI16, rfl, hK21⟩
    unfold tocsinref13_text_l27 at hb15
    refine gk_at hK21 ?_
    refine gk_seq (by kernel_rfl) ?_
    refine gk_seq (by kernel_rfl) ?_
    refine gk_region (by kernel_rfl) ?_
    refine gl_pure 4 [0, 1, 7, 8, 9, 21] (K' := [(0, .string a0), (1, .int .i64 a1), (7, .int .u8 c1), (8, .slice A17 s13.1.length n18), (9, .int .i64 s13.2), (21, .bool (decide (s13.2 < (a0.size : Int))))]) (by kernel_rfl) ?_
    refine gl_atE (by kernel_rfl) ?_
    refine ge_seq ?_
    refine gk_cond (b := (decide (s13.2 < (a0.size : Int)))) (by kernel_rfl) (by kernel_rfl) (fun hc29 => ?_) (fun hc29 => ?_)
    · have hb15 := cond_t hc29 hb15
      refine gk_skip (by kernel_rfl) ?_
      refine ge_seq ?_
      refine gk_seq (by kernel_rfl) ?_
      obtain ⟨j30, hj31, hb15⟩ := bind_some hb15
      refine gk_join (fun t I' L' => ∃ j32, j30 = Sum.inl j32 ∧ ∃ A34 n35 C36, OwnS (Kd.int .u8) 5 I' A34 n35 j32.1 C36 ∧ I22 ≤ I' ∧ C36 ++ L = L' ∧ Knows 133 [(0, .string a0), (1, .int .i64 a1), (7, .int .u8 c1), (8, .slice A34 j32.1.length n35), (9, .int .i64 j32.2)] t) ?_ ?_
      · refine gk_block (by kernel_rfl) ?_
        refine gk_seq (by kernel_rfl) ?_
        refine gk_region (by kernel_rfl) ?_
        refine gl_pure 2 [0, 1, 7, 8, 9, 24, 25] (K' := [(0, .string a0), (1, .int .i64 a1), (7, .int .u8 c1), (8, .slice A17 s13.1.length n18), (9, .int .i64 s13.2), (24, .string a0), (25, .int .i64 s13.2)]) (by kernel_rfl) ?_
        obtain ⟨c40, hx41, hj31⟩ := bind_some hj31
        refine gl_index' (T' := 9) (xs := (.tmp 24)) (xi := (.tmp 25)) (kd := .i64) hx41 (by kernel_rfl) (by kernel_rfl) (by kernel_rfl) (by kernel_rfl) (by kernel_rfl) ?_
        refine gl_pure 1 [0, 1, 7, 8, 9, 10] (K' := [(0, .string a0), (1, .int .i64 a1), (7, .int .u8 c1), (8, .slice A17 s13.1.length n18), (9, .int .i64 s13.2), (10, .int .u8 c40)]) (by kernel_rfl) ?_
        refine gl_atE (by kernel_rfl) ?_
        refine ge_seq ?_
        refine gk_seq (by kernel_rfl) ?_
        refine gk_seq (by kernel_rfl) ?_
        refine gk_region (by kernel_rfl) ?_
        refine gl_pure 3 [0, 1, 7, 8, 9, 10, 29] (K' := [(0, .string a0), (1, .int .i64 a1), (7, .int .u8 c1), (8, .slice A17 s13.1.length n18), (9, .int .i64 s13.2), (10, .int .u8 c40), (29, .bool (c40 == c1))]) (by kernel_rfl) ?_
        refine gl_atE (by kernel_rfl) ?_
        refine ge_seq ?_
        refine gk_cond (b := (c40 == c1)) (by kernel_rfl) (by kernel_rfl) (fun hc42 => ?_) (fun hc42 => ?_)
        · have hj31 := cond_t hc42 hj31
          refine gk_seq (by kernel_rfl) ?_
          obtain ⟨j43, hj44, hj31⟩ := bind_some hj31
          refine gk_join (fun t I' L' => I22 ≤ I' ∧ L = L' ∧ Knows 133 [(4, .string j43.1), (5, .int .i64 j43.2.1), (6, .bool j43.2.2)] t) ?_ ?_
          · refine gk_draw 17 [(0, true), (1, true), (2, true), (3, true), (4, true), (5, true), (6, true), (7, true), (8, true), (9, true), (10, true), (11, true), (12, true), (13, true), (14, true), (15, true), (16, true)] (C19 ++ []) (List.forall_mem_append.2 ⟨fun q hq => (List.mem_append_left _ hq), (fun p hp => by cases hp)⟩) (by kernel_rfl) (by kernel_rfl) (by kernel_rfl) ?_ (by kernel_rfl)
            refine gd_pure 1 [0, 1, 8, 9, 30] (K' := [(0, .string a0), (1, .int .i64 a1), (8, .slice A17 s13.1.length n18), (9, .int .i64 s13.2), (30, .slice A17 s13.1.length n18)]) (s' := [(1, true), (2, true), (3, true), (4, true), (5, true), (6, true), (7, true), (8, true), (9, true), (10, true), (11, true), (12, true), (13, true), (14, true), (15, true), (16, true)]) (CC.refl (List.forall_mem_append.2 ⟨fun q hq => (List.mem_append_left _ hq), (fun p hp => by cases hp)⟩)) (by kernel_rfl) ?_
            refine gd_q (v := .string (ofBytes s13.1)) (by kernel_rfl) (by kernel_rfl) (CC.refl (List.forall_mem_append.2 ⟨fun q hq => (List.mem_append_left _ hq), (fun p hp => by cases hp)⟩)) (fun I' L' T hC kk => gl_bytesStr (c := n18) (src := 41) (dst := 9) (e := 5) (n := 1) (x := (.tmp 30)) (by kernel_rfl) (by kernel_rfl) (by kernel_rfl) (by kernel_rfl) (by kernel_rfl) (by kernel_rfl) (OwnS.rdC (hO20.mono hC.le) (fun q hq => hC.sub _ (List.mem_append_left _ hq))) kk) ?_
            refine gd_pure 3 [0, 1, 9, 31, 33, 34] (K' := [(0, .string a0), (1, .int .i64 a1), (9, .int .i64 s13.2), (31, .string (ofBytes s13.1)), (33, .int .i64 (IntKind.wrap .i64 (s13.2 + 1))), (34, .slice A17 s13.1.length n18)]) (s' := [(5, true), (6, true), (7, true), (8, true), (9, true), (10, true), (11, true), (12, true), (13, true), (14, true), (15, true), (16, true)]) (CC.refl (List.forall_mem_append.2 ⟨fun q hq => (List.mem_append_left _ hq), (fun p hp => by cases hp)⟩)) (by kernel_rfl) ?_
            refine gd_q (v := .string (ofBytes s13.1)) (by kernel_rfl) (by kernel_rfl) (CC.refl (List.forall_mem_append.2 ⟨fun q hq => (List.mem_append_left _ hq), (fun p hp => by cases hp)⟩)) (fun I' L' T hC kk => gl_bytesStr (c := n18) (src := 41) (dst := 9) (e := 5) (n := 1) (x := (.tmp 34)) (by kernel_rfl) (by kernel_rfl) (by kernel_rfl) (by kernel_rfl) (by kernel_rfl) (by kernel_rfl) (OwnS.rdC (hO20.mono hC.le) (fun q hq => hC.sub _ (List.mem_append_left _ hq))) kk) ?_
            obtain ⟨y48, hx49, hj44⟩ := bind_some hj44
            refine gd_q (v := .bool y48) (by kernel_rfl) (by kernel_rfl) (CC.refl (List.forall_mem_append.2 ⟨fun q hq => (List.mem_append_left _ hq), (fun p hp => by cases hp)⟩)) (fun I' L' T hC kk => gl_callQ (by kernel_rfl) (tocsinref01_Utf8_walk (r := y48)  hx49 _) kk) ?_
            refine gd_pure 1 [0, 1, 9, 31, 33, 37] (K' := [(0, .string a0), (1, .int .i64 a1), (9, .int .i64 s13.2), (31, .string (ofBytes s13.1)), (33, .int .i64 (IntKind.wrap .i64 (s13.2 + 1))), (37, .bool y48)]) (s' := [(8, true), (9, true), (10, true), (11, true), (12, true), (13, true), (14, true), (15, true), (16, true)]) (CC.refl (List.forall_mem_append.2 ⟨fun q hq => (List.mem_append_left _ hq), (fun p hp => by cases hp)⟩)) (by kernel_rfl) ?_
            refine gd_case 37 (b := y48) (by kernel_rfl) (fun hc50 => ?_) (fun hc50 => ?_)
            · have hj44 := cond_t hc50 hj44
              refine gd_pure 3 [31, 33, 37, 38, 39, 40] (K' := [(31, .string (ofBytes s13.1)), (33, .int .i64 (IntKind.wrap .i64 (s13.2 + 1))), (37, .bool true), (38, .string a0), (39, .int .i64 a1), (40, .int .i64 s13.2)]) (s' := [(11, true), (12, true), (13, true), (14, true), (15, true), (16, true)]) (CC.refl (List.forall_mem_append.2 ⟨fun q hq => (List.mem_append_left _ hq), (fun p hp => by cases hp)⟩)) (by kernel_rfl) ?_
              obtain ⟨s52, hx51, hj44⟩ := bind_some hj44
              refine gd_q (v := .string s52) (by kernel_rfl) (by kernel_rfl) (CC.refl (List.forall_mem_append.2 ⟨fun q hq => (List.mem_append_left _ hq), (fun p hp => by cases hp)⟩)) (fun I' L' T hC kk => gl_slice' (T' := 9) (xs := (.tmp 38)) (lo := (some (.tmp 39))) (hi := (some (.tmp 40))) hx51 (by kernel_rfl) (by kernel_rfl) (by kernel_rfl) (by kernel_rfl) (by kernel_rfl) (by kernel_rfl) kk) ?_
              obtain ⟨y53, hx54, hj44⟩ := bind_some hj44
              refine gd_q (v := .bool y53) (by kernel_rfl) (by kernel_rfl) (CC.refl (List.forall_mem_append.2 ⟨fun q hq => (List.mem_append_left _ hq), (fun p hp => by cases hp)⟩)) (fun I' L' T hC kk => gl_callQ (by kernel_rfl) (tocsinref01_Utf8_walk (r := y53)  hx54 _) kk) ?_
              refine gd_pure 4 [4, 5, 6] (K' := [(4, .string (ofBytes s13.1)), (5, .int .i64 (IntKind.wrap .i64 (s13.2 + 1))), (6, .bool y53)]) (s' := []) (CC.refl (List.forall_mem_append.2 ⟨fun q hq => (List.mem_append_left _ hq), (fun p hp => by cases hp)⟩)) (by kernel_rfl) ?_
              refine gd_done ?_
              refine gl_reord (D := L) (Reord.skipC (Reord.refl _)) ?_
              refine gl_atE (by kernel_rfl) ?_
              obtain rfl := some_inj hj44
              exact ge_mid fun t ht => ⟨(Imm.refl _), rfl, ht.pick (l := [4, 5, 6]) (by kernel_rfl)⟩
            · have hj44 := cond_f hc50 hj44
              refine gd_pure 9 [4, 5, 6] (K' := [(4, .string (ofBytes s13.1)), (5, .int .i64 (IntKind.wrap .i64 (s13.2 + 1))), (6, .bool false)]) (s' := []) (CC.refl (List.forall_mem_append.2 ⟨fun q hq => (List.mem_append_left _ hq), (fun p hp => by cases hp)⟩)) (by kernel_rfl) ?_
              refine gd_done ?_
              refine gl_reord (D := L) (Reord.skipC (Reord.refl _)) ?_
              refine gl_atE (by kernel_rfl) ?_
              obtain rfl := some_inj hj44
              exact ge_mid fun t ht => ⟨(Imm.refl _), rfl, ht.pick (l := [4, 5, 6]) (by kernel_rfl)⟩
          · rintro t I47 L' ⟨hI45, rfl, hK46⟩
            refine ge_at hK46 ?_
            refine ge_seq ?_
            refine gk_ret (by kernel_rfl) ?_
            refine ge_seq_ret ?_
            refine ge_block_ret ?_
            refine ge_seq_ret ?_
            obtain rfl := some_inj hj31
            refine ge_seq_ret ?_
            obtain rfl := some_inj hb15
            refine ge_round_out (fun hrr => ?_) (by intro h; cases h)
            obtain rfl := hrr
            refine ge_block_ret ?_
            refine ge_seq_ret ?_
            refine ge_seq_ret ?_
            obtain rfl := some_inj hr
            exact ge_result trivial (ResOk.tmp (by kernel_rfl) (ResOk.tmp (by kernel_rfl) (ResOk.tmp (by kernel_rfl) ResOk.nil))) (Imm.trans hI16 hI45) ⟨rfl, rfl⟩
        · have hj31 := cond_f hc42 hj31
          refine gk_skip (by kernel_rfl) ?_
          refine ge_seq ?_
          refine gk_seq (by kernel_rfl) ?_
          refine gk_seq (by kernel_rfl) ?_
          refine gk_region (by kernel_rfl) ?_
          refine gl_pure 2 [0, 1, 7, 8, 9, 10, 45] (K' := [(0, .string a0), (1, .int .i64 a1), (7, .int .u8 c1), (8, .slice A17 s13.1.length n18), (9, .int .i64 s13.2), (10, .int .u8 c40), (45, .bool (c40 == 10))]) (by kernel_rfl) ?_
          refine gl_atE (by kernel_rfl) ?_
          refine ge_seq ?_
          refine gk_cond (b := (c40 == 10)) (by kernel_rfl) (by kernel_rfl) (fun hc55 => ?_) (fun hc55 => ?_)
          · have hj31 := cond_t hc55 hj31
            refine gk_seq (by kernel_rfl) ?_
            refine gk_region (by kernel_rfl) ?_
            refine gl_pure 3 [4, 5, 6] (K' := [(4, .string (⟨#[]⟩ : ByteArray)), (5, .int .i64 0), (6, .bool false)]) (by kernel_rfl) ?_
            refine gl_atE (by kernel_rfl) ?_
            refine ge_seq ?_
            refine gk_reord (D := L) (Reord.skipC (Reord.refl _)) ?_
            refine gk_ret (by kernel_rfl) ?_
            refine ge_seq_ret ?_
            refine ge_block_ret ?_
            refine ge_seq_ret ?_
            obtain rfl := some_inj hj31
            refine ge_seq_ret ?_
            obtain rfl := some_inj hb15
            refine ge_round_out (fun hrr => ?_) (by intro h; cases h)
            obtain rfl := hrr
            refine ge_block_ret ?_
            refine ge_seq_ret ?_
            refine ge_seq_ret ?_
            obtain rfl := some_inj hr
            exact ge_result trivial (ResOk.tmp (by kernel_rfl) (ResOk.tmp (by kernel_rfl) (ResOk.tmp (by kernel_rfl) ResOk.nil))) hI16 ⟨rfl, rfl⟩
          · have hj31 := cond_f hc55 hj31
            refine gk_skip (by kernel_rfl) ?_
            refine ge_seq ?_
            refine gk_seq (by kernel_rfl) ?_
            refine gk_seq (by kernel_rfl) ?_
            refine gk_region (by kernel_rfl) ?_
            refine gl_pure 2 [0, 1, 7, 8, 9, 10, 47] (K' := [(0, .string a0), (1, .int .i64 a1), (7, .int .u8 c1), (8, .slice A17 s13.1.length n18), (9, .int .i64 s13.2), (10, .int .u8 c40), (47, .bool (c40 != 92))]) (by kernel_rfl) ?_
            refine gl_atE (by kernel_rfl) ?_
            refine ge_seq ?_
            refine gk_cond (b := (c40 != 92)) (by kernel_rfl) (by kernel_rfl) (fun hc56 => ?_) (fun hc56 => ?_)
            · have hj31 := cond_t hc56 hj31
              refine gk_seq (by kernel_rfl) ?_
              refine gk_region (by kernel_rfl) ?_
              refine gl_pure 2 [0, 1, 7, 9, 48, 49] (K' := [(0, .string a0), (1, .int .i64 a1), (7, .int .u8 c1), (9, .int .i64 s13.2), (48, .slice A17 s13.1.length n18), (49, .int .u8 c40)]) (by kernel_rfl) ?_
              refine gl_buildSlice (T' := 41) (e := 5) (n := 1) (len := 1) (parts := #[(0, (.tmp 49))]) (l := [(0, .int .u8 c40)]) (cs := #[.int .u8 c40]) (by kernel_rfl) (by kernel_rfl) (by kernel_rfl) (by kernel_rfl) (by kernel_rfl) (fun g57 => ?_)
              have hO58 : OwnS (Kd.int .u8) 5 I22 (some ⟨g57, 0, none⟩) 1 [c40] [(g57, .cells #[.int .u8 c40] 5)] := OwnS.lit (row_cons (l := [.int .u8 c40]) rfl (row_nil _ _)) rfl rfl rfl
              refine gl_reord (D := [(g57, .cells #[.int .u8 c40] 5)] ++ (C19 ++ L)) (Reord.refl _) ?_
              obtain ⟨zs61, hz62, hj31⟩ := bind_some hj31
              refine gl_append (xv := .slice (some ⟨g57, 0, none⟩) [c40].length 1) (d := (Kd.int .u8)) (t := 41) (tx := 41) (e := 5) (s := (.tmp 48)) (x := (.tmp 50)) (xs := s13.1) (fun X => [(g57, .cells #[.int .u8 c40] 5)] ++ (X ++ L)) hz62 (by kernel_rfl) (by kernel_rfl) (by kernel_rfl) (by kernel_rfl) (by kernel_rfl) (by kernel_rfl) (fun X => (Upd.app _ (Upd.head _ X _))) hO20 (SrcOk.slice (c := 1) (e := 5) (n := 1) (OwnS.rd hO58 (Upd.selfC _ _)) (by kernel_rfl)) (fun A63 n64 C65 hO66 => ?_)
              refine gl_pure 1 [0, 1, 7, 8, 9] (K' := [(0, .string a0), (1, .int .i64 a1), (7, .int .u8 c1), (8, .slice A63 zs61.length n64), (9, .int .i64 s13.2)]) (by kernel_rfl) ?_
              refine gl_atE (by kernel_rfl) ?_
              refine ge_seq ?_
              refine gk_reord (D := C65 ++ L) (Reord.step (Upd.app _ (Upd.rmC _ _)) (Reord.skipC (Reord.refl _))) ?_
              refine gk_exit (by kernel_rfl) ?_
              refine ge_seq_exit ?_
              refine ge_block_hit (by kernel_rfl) ?_
              obtain rfl := some_inj hj31
              exact ge_mid fun t ht => ⟨_, rfl, A63, n64, C65, hO66, (Imm.refl _), rfl, ht.pick (l := [0, 1, 7, 8, 9]) (by kernel_rfl)⟩
            · have hj31 := cond_f hc56 hj31
              refine gk_skip (by kernel_rfl) ?_
              refine ge_seq ?_
              refine gk_seq (by kernel_rfl) ?_
              refine gk_region (by kernel_rfl) ?_
              refine gl_pure 3 [0, 1, 7, 8, 9] (K' := [(0, .string a0), (1, .int .i64 a1), (7, .int .u8 c1), (8, .slice A17 s13.1.length n18), (9, .int .i64 (IntKind.wrap .i64 (s13.2 + 1)))]) (by kernel_rfl) ?_
              refine gl_atE (by kernel_rfl) ?_
              refine ge_seq ?_
              refine gk_seq (by kernel_rfl) ?_
              refine gk_seq (by kernel_rfl) ?_
              refine gk_region (by kernel_rfl) ?_
              refine gl_pure 4 [0, 1, 7, 8, 9, 57] (K' := [(0, .string a0), (1, .int .i64 a1), (7, .int .u8 c1), (8, .slice A17 s13.1.length n18), (9, .int .i64 (IntKind.wrap .i64 (s13.2 + 1))), (57, .bool (decide ((IntKind.wrap .i64 (s13.2 + 1)) ≥ (a0.size : Int))))]) (by kernel_rfl) ?_
              refine gl_atE (by kernel_rfl) ?_
              refine ge_seq ?_
              refine gk_cond (b := (decide ((IntKind.wrap .i64 (s13.2 + 1)) ≥ (a0.size : Int)))) (by kernel_rfl) (by kernel_rfl) (fun hc67 => ?_) (fun hc67 => ?_)
              · have hj31 := cond_t hc67 hj31
                refine gk_seq (by kernel_rfl) ?_
                refine gk_region (by kernel_rfl) ?_
                refine gl_pure 3 [4, 5, 6] (K' := [(4, .string (⟨#[]⟩ : ByteArray)), (5, .int .i64 0), (6, .bool false)]) (by kernel_rfl) ?_
                refine gl_atE (by kernel_rfl) ?_
                refine ge_seq ?_
                refine gk_reord (D := L) (Reord.skipC (Reord.refl _)) ?_
                refine gk_ret (by kernel_rfl) ?_
                refine ge_seq_ret ?_
                refine ge_block_ret ?_
                refine ge_seq_ret ?_
                obtain rfl := some_inj hj31
                refine ge_seq_ret ?_
                obtain rfl := some_inj hb15
                refine ge_round_out (fun hrr => ?_) (by intro h; cases h)
                obtain rfl := hrr
                refine ge_block_ret ?_
                refine ge_seq_ret ?_
                refine ge_seq_ret ?_
                obtain rfl := some_inj hr
                exact ge_result trivial (ResOk.tmp (by kernel_rfl) (ResOk.tmp (by kernel_rfl) (ResOk.tmp (by kernel_rfl) ResOk.nil))) hI16 ⟨rfl, rfl⟩
              · have hj31 := cond_f hc67 hj31
                refine gk_skip (by kernel_rfl) ?_
                refine ge_seq ?_
                refine gk_seq (by kernel_rfl) ?_
                refine gk_region (by kernel_rfl) ?_
                refine gl_pure 2 [0, 1, 7, 8, 9, 58, 59] (K' := [(0, .string a0), (1, .int .i64 a1), (7, .int .u8 c1), (8, .slice A17 s13.1.length n18), (9, .int .i64 (IntKind.wrap .i64 (s13.2 + 1))), (58, .string a0), (59, .int .i64 (IntKind.wrap .i64 (s13.2 + 1)))]) (by kernel_rfl) ?_
                obtain ⟨c68, hx69, hj31⟩ := bind_some hj31
                refine gl_index' (T' := 9) (xs := (.tmp 58)) (xi := (.tmp 59)) (kd := .i64) hx69 (by kernel_rfl) (by kernel_rfl) (by kernel_rfl) (by kernel_rfl) (by kernel_rfl) ?_
                refine gl_atE (by kernel_rfl) ?_
                refine ge_seq ?_
                refine gk_block (by kernel_rfl) ?_
                refine gk_seq (by kernel_rfl) ?_
                refine gk_seq (by kernel_rfl) ?_
                refine gk_region (by kernel_rfl) ?_
                refine gl_pure 2 [0, 1, 7, 8, 9, 60, 61] (K' := [(0, .string a0), (1, .int .i64 a1), (7, .int .u8 c1), (8, .slice A17 s13.1.length n18), (9, .int .i64 (IntKind.wrap .i64 (s13.2 + 1))), (60, .int .u8 c68), (61, .bool (c68 == 92))]) (by kernel_rfl) ?_
                refine gl_atE (by kernel_rfl) ?_
                refine ge_seq ?_
                obtain ⟨j70, hj71, hj31⟩ := bind_some hj31
                refine gk_join (fun t I' L' => I22 ≤ I' ∧ C19 ++ L = L' ∧ Knows 133 [(0, .string a0), (1, .int .i64 a1), (7, .int .u8 c1), (8, .slice A17 s13.1.length n18), (9, .int .i64 (IntKind.wrap .i64 (s13.2 + 1))), (60, .int .u8 c68), (61, .bool j70)] t) ?_ ?_
                · refine gk_cond (b := (c68 == 92)) (by kernel_rfl) (by kernel_rfl) (fun hc75 => ?_) (fun hc75 => ?_)
                  · have hj71 := cond_t hc75 hj71
                    refine gk_skip (by kernel_rfl) ?_
                    obtain rfl := some_inj hj71
                    exact ge_mid fun t ht => ⟨(Imm.refl _), rfl, ht.pick (l := [0, 1, 7, 8, 9, 60, 61]) (by kernel_rfl)⟩
                  · have hj71 := cond_f hc75 hj71
                    refine gk_seq (by kernel_rfl) ?_
                    refine gk_region (by kernel_rfl) ?_
                    refine gl_pure 2 [0, 1, 7, 8, 9, 60, 61] (K' := [(0, .string a0), (1, .int .i64 a1), (7, .int .u8 c1), (8, .slice A17 s13.1.length n18), (9, .int .i64 (IntKind.wrap .i64 (s13.2 + 1))), (60, .int .u8 c68), (61, .bool (c68 == 34))]) (by kernel_rfl) ?_
                    refine gl_atE (by kernel_rfl) ?_
                    refine ge_seq ?_
                    obtain ⟨j76, hj77, hj71⟩ := bind_some hj71
                    refine gk_join (fun t I' L' => I22 ≤ I' ∧ C19 ++ L = L' ∧ Knows 133 [(0, .string a0), (1, .int .i64 a1), (7, .int .u8 c1), (8, .slice A17 s13.1.length n18), (9, .int .i64 (IntKind.wrap .i64 (s13.2 + 1))), (60, .int .u8 c68), (61, .bool j76)] t) ?_ ?_
                    · refine gk_cond (b := (c68 == 34)) (by kernel_rfl) (by kernel_rfl) (fun hc81 => ?_) (fun hc81 => ?_)
                      · have hj77 := cond_t hc81 hj77
                        refine gk_skip (by kernel_rfl) ?_
                        obtain rfl := some_inj hj77
                        exact ge_mid fun t ht => ⟨(Imm.refl _), rfl, ht.pick (l := [0, 1, 7, 8, 9, 60, 61]) (by kernel_rfl)⟩
                      · have hj77 := cond_f hc81 hj77
                        refine gk_region (by kernel_rfl) ?_
                        refine gl_pure 2 [0, 1, 7, 8, 9, 60, 61] (K' := [(0, .string a0), (1, .int .i64 a1), (7, .int .u8 c1), (8, .slice A17 s13.1.length n18), (9, .int .i64 (IntKind.wrap .i64 (s13.2 + 1))), (60, .int .u8 c68), (61, .bool (c68 == 39))]) (by kernel_rfl) ?_
                        refine gl_atE (by kernel_rfl) ?_
                        obtain rfl := some_inj hj77
                        exact ge_mid fun t ht => ⟨(Imm.refl _), rfl, ht.pick (l := [0, 1, 7, 8, 9, 60, 61]) (by kernel_rfl)⟩
                    · rintro t I80 L' ⟨hI78, rfl, hK79⟩
                      refine ge_at hK79 ?_
                      obtain rfl := some_inj hj71
                      exact ge_mid fun t ht => ⟨hI78, rfl, ht.pick (l := [0, 1, 7, 8, 9, 60, 61]) (by kernel_rfl)⟩
                · rintro t I74 L' ⟨hI72, rfl, hK73⟩
                  refine ge_at hK73 ?_
                  refine ge_seq ?_
                  obtain ⟨j82, hj83, hj31⟩ := bind_some hj31
                  refine gk_join (fun t I' L' => ∃ j84, j82 = Sum.inl j84 ∧ ∃ A86 n87 C88, OwnS (Kd.int .u8) 5 I' A86 n87 j84.1 C88 ∧ I74 ≤ I' ∧ C88 ++ L = L' ∧ Knows 133 [(0, .string a0), (1, .int .i64 a1), (7, .int .u8 c1), (8, .slice A86 j84.1.length n87), (9, .int .i64 j84.2)] t) ?_ ?_
                  · refine gk_cond (b := j70) (by kernel_rfl) (by kernel_rfl) (fun hc92 => ?_) (fun hc92 => ?_)
                    · have hj83 := cond_t hc92 hj83
                      refine gk_region (by kernel_rfl) ?_
                      refine gl_pure 3 [0, 1, 7, 9, 65, 66, 67] (K' := [(0, .string a0), (1, .int .i64 a1), (7, .int .u8 c1), (9, .int .i64 (IntKind.wrap .i64 (s13.2 + 1))), (65, .slice A17 s13.1.length n18), (66, .string a0), (67, .int .i64 (IntKind.wrap .i64 (s13.2 + 1)))]) (by kernel_rfl) ?_
                      obtain ⟨c93, hx94, hj83⟩ := bind_some hj83
                      refine gl_index' (T' := 9) (xs := (.tmp 66)) (xi := (.tmp 67)) (kd := .i64) hx94 (by kernel_rfl) (by kernel_rfl) (by kernel_rfl) (by kernel_rfl) (by kernel_rfl) ?_
                      refine gl_buildSlice (T' := 41) (e := 5) (n := 1) (len := 1) (parts := #[(0, (.tmp 68))]) (l := [(0, .int .u8 c93)]) (cs := #[.int .u8 c93]) (by kernel_rfl) (by kernel_rfl) (by kernel_rfl) (by kernel_rfl) (by kernel_rfl) (fun g95 => ?_)
                      have hO96 : OwnS (Kd.int .u8) 5 I74 (some ⟨g95, 0, none⟩) 1 [c93] [(g95, .cells #[.int .u8 c93] 5)] := OwnS.lit (row_cons (l := [.int .u8 c93]) rfl (row_nil _ _)) rfl rfl rfl
                      refine gl_reord (D := [(g95, .cells #[.int .u8 c93] 5)] ++ (C19 ++ L)) (Reord.refl _) ?_
                      obtain ⟨zs99, hz100, hj83⟩ := bind_some hj83
                      refine gl_append (xv := .slice (some ⟨g95, 0, none⟩) [c93].length 1) (d := (Kd.int .u8)) (t := 41) (tx := 41) (e := 5) (s := (.tmp 65)) (x := (.tmp 69)) (xs := s13.1) (fun X => [(g95, .cells #[.int .u8 c93] 5)] ++ (X ++ L)) hz100 (by kernel_rfl) (by kernel_rfl) (by kernel_rfl) (by kernel_rfl) (by kernel_rfl) (by kernel_rfl) (fun X => (Upd.app _ (Upd.head _ X _))) (hO20.mono hI72) (SrcOk.slice (c := 1) (e := 5) (n := 1) (OwnS.rd hO96 (Upd.selfC _ _)) (by kernel_rfl)) (fun A101 n102 C103 hO104 => ?_)
                      refine gl_pure 1 [0, 1, 7, 8, 9] (K' := [(0, .string a0), (1, .int .i64 a1), (7, .int .u8 c1), (8, .slice A101 zs99.length n102), (9, .int .i64 (IntKind.wrap .i64 (s13.2 + 1)))]) (by kernel_rfl) ?_
                      refine gl_reord (D := C103 ++ L) (Reord.step (Upd.app _ (Upd.rmC _ _)) (Reord.skipC (Reord.refl _))) ?_
                      refine gl_atE (by kernel_rfl) ?_
                      obtain rfl := some_inj hj83
                      exact ge_mid fun t ht => ⟨_, rfl, A101, n102, C103, hO104, (Imm.refl _), rfl, ht.pick (l := [0, 1, 7, 8, 9]) (by kernel_rfl)⟩
                    · have hj83 := cond_f hc92 hj83
                      refine gk_seq (by kernel_rfl) ?_
                      refine gk_region (by kernel_rfl) ?_
                      refine gl_pure 2 [0, 1, 7, 8, 9, 60, 71] (K' := [(0, .string a0), (1, .int .i64 a1), (7, .int .u8 c1), (8, .slice A17 s13.1.length n18), (9, .int .i64 (IntKind.wrap .i64 (s13.2 + 1))), (60, .int .u8 c68), (71, .bool (c68 == 110))]) (by kernel_rfl) ?_
                      refine gl_atE (by kernel_rfl) ?_
                      refine ge_seq ?_
                      obtain ⟨j105, hj106, hj83⟩ := bind_some hj83
                      refine gk_join (fun t I' L' => ∃ j107, j105 = Sum.inl j107 ∧ ∃ A109 n110 C111, OwnS (Kd.int .u8) 5 I' A109 n110 j107.1 C111 ∧ I74 ≤ I' ∧ C111 ++ L = L' ∧ Knows 133 [(0, .string a0), (1, .int .i64 a1), (7, .int .u8 c1), (8, .slice A109 j107.1.length n110), (9, .int .i64 j107.2)] t) ?_ ?_
                      · refine gk_cond (b := (c68 == 110)) (by kernel_rfl) (by kernel_rfl) (fun hc115 => ?_) (fun hc115 => ?_)
                        · have hj106 := cond_t hc115 hj106
                          refine gk_region (by kernel_rfl) ?_
                          refine gl_pure 1 [0, 1, 7, 9, 73] (K' := [(0, .string a0), (1, .int .i64 a1), (7, .int .u8 c1), (9, .int .i64 (IntKind.wrap .i64 (s13.2 + 1))), (73, .slice A17 s13.1.length n18)]) (by kernel_rfl) ?_
                          refine gl_buildSlice (T' := 41) (e := 5) (n := 1) (len := 1) (parts := #[(0, (.const (.int .u8 10)))]) (l := [(0, .int .u8 10)]) (cs := #[.int .u8 10]) (by kernel_rfl) (by kernel_rfl) (by kernel_rfl) (by kernel_rfl) (by kernel_rfl) (fun g116 => ?_)
                          have hO117 : OwnS (Kd.int .u8) 5 I74 (some ⟨g116, 0, none⟩) 1 [10] [(g116, .cells #[.int .u8 10] 5)] := OwnS.lit (row_cons (l := [.int .u8 10]) rfl (row_nil _ _)) rfl rfl rfl
                          refine gl_reord (D := [(g116, .cells #[.int .u8 10] 5)] ++ (C19 ++ L)) (Reord.refl _) ?_
                          obtain ⟨zs120, hz121, hj106⟩ := bind_some hj106
                          refine gl_append (xv := .slice (some ⟨g116, 0, none⟩) [10].length 1) (d := (Kd.int .u8)) (t := 41) (tx := 41) (e := 5) (s := (.tmp 73)) (x := (.tmp 74)) (xs := s13.1) (fun X => [(g116, .cells #[.int .u8 10] 5)] ++ (X ++ L)) hz121 (by kernel_rfl) (by kernel_rfl) (by kernel_rfl) (by kernel_rfl) (by kernel_rfl) (by kernel_rfl) (fun X => (Upd.app _ (Upd.head _ X _))) (hO20.mono hI72) (SrcOk.slice (c := 1) (e := 5) (n := 1) (OwnS.rd hO117 (Upd.selfC _ _)) (by kernel_rfl)) (fun A122 n123 C124 hO125 => ?_)
                          refine gl_pure 1 [0, 1, 7, 8, 9] (K' := [(0, .string a0), (1, .int .i64 a1), (7, .int .u8 c1), (8, .slice A122 zs120.length n123), (9, .int .i64 (IntKind.wrap .i64 (s13.2 + 1)))]) (by kernel_rfl) ?_
                          refine gl_reord (D := C124 ++ L) (Reord.step (Upd.app _ (Upd.rmC _ _)) (Reord.skipC (Reord.refl _))) ?_
                          refine gl_atE (by kernel_rfl) ?_
                          obtain rfl := some_inj hj106
                          exact ge_mid fun t ht => ⟨_, rfl, A122, n123, C124, hO125, (Imm.refl _), rfl, ht.pick (l := [0, 1, 7, 8, 9]) (by kernel_rfl)⟩
                        · have hj106 := cond_f hc115 hj106
                          refine gk_seq (by kernel_rfl) ?_
                          refine gk_region (by kernel_rfl) ?_
                          refine gl_pure 2 [0, 1, 7, 8, 9, 60, 76] (K' := [(0, .string a0), (1, .int .i64 a1), (7, .int .u8 c1), (8, .slice A17 s13.1.length n18), (9, .int .i64 (IntKind.wrap .i64 (s13.2 + 1))), (60, .int .u8 c68), (76, .bool (c68 == 116))]) (by kernel_rfl) ?_
                          refine gl_atE (by kernel_rfl) ?_
                          refine ge_seq ?_
                          obtain ⟨j126, hj127, hj106⟩ := bind_some hj106
                          refine gk_join (fun t I' L' => ∃ j128, j126 = Sum.inl j128 ∧ ∃ A130 n131 C132, OwnS (Kd.int .u8) 5 I' A130 n131 j128.1 C132 ∧ I74 ≤ I' ∧ C132 ++ L = L' ∧ Knows 133 [(0, .string a0), (1, .int .i64 a1), (7, .int .u8 c1), (8, .slice A130 j128.1.length n131), (9, .int .i64 j128.2)] t) ?_ ?_
                          · refine gk_cond (b := (c68 == 116)) (by kernel_rfl) (by kernel_rfl) (fun hc136 => ?_) (fun hc136 => ?_)
                            · have hj127 := cond_t hc136 hj127
                              refine gk_region (by kernel_rfl) ?_
                              refine gl_pure 1 [0, 1, 7, 9, 78] (K' := [(0, .string a0), (1, .int .i64 a1), (7, .int .u8 c1), (9, .int .i64 (IntKind.wrap .i64 (s13.2 + 1))), (78, .slice A17 s13.1.length n18)]) (by kernel_rfl) ?_
                              refine gl_buildSlice (T' := 41) (e := 5) (n := 1) (len := 1) (parts := #[(0, (.const (.int .u8 9)))]) (l := [(0, .int .u8 9)]) (cs := #[.int .u8 9]) (by kernel_rfl) (by kernel_rfl) (by kernel_rfl) (by kernel_rfl) (by kernel_rfl) (fun g137 => ?_)
                              have hO138 : OwnS (Kd.int .u8) 5 I74 (some ⟨g137, 0, none⟩) 1 [9] [(g137, .cells #[.int .u8 9] 5)] := OwnS.lit (row_cons (l := [.int .u8 9]) rfl (row_nil _ _)) rfl rfl rfl
                              refine gl_reord (D := [(g137, .cells #[.int .u8 9] 5)] ++ (C19 ++ L)) (Reord.refl _) ?_
                              obtain ⟨zs141, hz142, hj127⟩ := bind_some hj127
                              refine gl_append (xv := .slice (some ⟨g137, 0, none⟩) [9].length 1) (d := (Kd.int .u8)) (t := 41) (tx := 41) (e := 5) (s := (.tmp 78)) (x := (.tmp 79)) (xs := s13.1) (fun X => [(g137, .cells #[.int .u8 9] 5)] ++ (X ++ L)) hz142 (by kernel_rfl) (by kernel_rfl) (by kernel_rfl) (by kernel_rfl) (by kernel_rfl) (by kernel_rfl) (fun X => (Upd.app _ (Upd.head _ X _))) (hO20.mono hI72) (SrcOk.slice (c := 1) (e := 5) (n := 1) (OwnS.rd hO138 (Upd.selfC _ _)) (by kernel_rfl)) (fun A143 n144 C145 hO146 => ?_)
                              refine gl_pure 1 [0, 1, 7, 8, 9] (K' := [(0, .string a0), (1, .int .i64 a1), (7, .int .u8 c1), (8, .slice A143 zs141.length n144), (9, .int .i64 (IntKind.wrap .i64 (s13.2 + 1)))]) (by kernel_rfl) ?_
                              refine gl_reord (D := C145 ++ L) (Reord.step (Upd.app _ (Upd.rmC _ _)) (Reord.skipC (Reord.refl _))) ?_
                              refine gl_atE (by kernel_rfl) ?_
                              obtain rfl := some_inj hj127
                              exact ge_mid fun t ht => ⟨_, rfl, A143, n144, C145, hO146, (Imm.refl _), rfl, ht.pick (l := [0, 1, 7, 8, 9]) (by kernel_rfl)⟩
                            · have hj127 := cond_f hc136 hj127
                              refine gk_seq (by kernel_rfl) ?_
                              refine gk_region (by kernel_rfl) ?_
                              refine gl_pure 2 [0, 1, 7, 8, 9, 60, 81] (K' := [(0, .string a0), (1, .int .i64 a1), (7, .int .u8 c1), (8, .slice A17 s13.1.length n18), (9, .int .i64 (IntKind.wrap .i64 (s13.2 + 1))), (60, .int .u8 c68), (81, .bool (c68 == 114))]) (by kernel_rfl) ?_
                              refine gl_atE (by kernel_rfl) ?_
                              refine ge_seq ?_
                              obtain ⟨j147, hj148, hj127⟩ := bind_some hj127
                              refine gk_join (fun t I' L' => ∃ j149, j147 = Sum.inl j149 ∧ ∃ A151 n152 C153, OwnS (Kd.int .u8) 5 I' A151 n152 j149.1 C153 ∧ I74 ≤ I' ∧ C153 ++ L = L' ∧ Knows 133 [(0, .string a0), (1, .int .i64 a1), (7, .int .u8 c1), (8, .slice A151 j149.1.length n152), (9, .int .i64 j149.2)] t) ?_ ?_
                              · refine gk_cond (b := (c68 == 114)) (by kernel_rfl) (by kernel_rfl) (fun hc157 => ?_) (fun hc157 => ?_)
                                · have hj148 := cond_t hc157 hj148
                                  refine gk_region (by kernel_rfl) ?_
                                  refine gl_pure 1 [0, 1, 7, 9, 83] (K' := [(0, .string a0), (1, .int .i64 a1), (7, .int .u8 c1), (9, .int .i64 (IntKind.wrap .i64 (s13.2 + 1))), (83, .slice A17 s13.1.length n18)]) (by kernel_rfl) ?_
                                  refine gl_buildSlice (T' := 41) (e := 5) (n := 1) (len := 1) (parts := #[(0, (.const (.int .u8 13)))]) (l := [(0, .int .u8 13)]) (cs := #[.int .u8 13]) (by kernel_rfl) (by kernel_rfl) (by kernel_rfl) (by kernel_rfl) (by kernel_rfl) (fun g158 => ?_)
                                  have hO159 : OwnS (Kd.int .u8) 5 I74 (some ⟨g158, 0, none⟩) 1 [13] [(g158, .cells #[.int .u8 13] 5)] := OwnS.lit (row_cons (l := [.int .u8 13]) rfl (row_nil _ _)) rfl rfl rfl
                                  refine gl_reord (D := [(g158, .cells #[.int .u8 13] 5)] ++ (C19 ++ L)) (Reord.refl _) ?_
                                  obtain ⟨zs162, hz163, hj148⟩ := bind_some hj148
                                  refine gl_append (xv := .slice (some ⟨g158, 0, none⟩) [13].length 1) (d := (Kd.int .u8)) (t := 41) (tx := 41) (e := 5) (s := (.tmp 83)) (x := (.tmp 84)) (xs := s13.1) (fun X => [(g158, .cells #[.int .u8 13] 5)] ++ (X ++ L)) hz163 (by kernel_rfl) (by kernel_rfl) (by kernel_rfl) (by kernel_rfl) (by kernel_rfl) (by kernel_rfl) (fun X => (Upd.app _ (Upd.head _ X _))) (hO20.mono hI72) (SrcOk.slice (c := 1) (e := 5) (n := 1) (OwnS.rd hO159 (Upd.selfC _ _)) (by kernel_rfl)) (fun A164 n165 C166 hO167 => ?_)
                                  refine gl_pure 1 [0, 1, 7, 8, 9] (K' := [(0, .string a0), (1, .int .i64 a1), (7, .int .u8 c1), (8, .slice A164 zs162.length n165), (9, .int .i64 (IntKind.wrap .i64 (s13.2 + 1)))]) (by kernel_rfl) ?_
                                  refine gl_reord (D := C166 ++ L) (Reord.step (Upd.app _ (Upd.rmC _ _)) (Reord.skipC (Reord.refl _))) ?_
                                  refine gl_atE (by kernel_rfl) ?_
                                  obtain rfl := some_inj hj148
                                  exact ge_mid fun t ht => ⟨_, rfl, A164, n165, C166, hO167, (Imm.refl _), rfl, ht.pick (l := [0, 1, 7, 8, 9]) (by kernel_rfl)⟩
                                · have hj148 := cond_f hc157 hj148
                                  refine gk_seq (by kernel_rfl) ?_
                                  refine gk_region (by kernel_rfl) ?_
                                  refine gl_pure 2 [0, 1, 7, 8, 9, 86] (K' := [(0, .string a0), (1, .int .i64 a1), (7, .int .u8 c1), (8, .slice A17 s13.1.length n18), (9, .int .i64 (IntKind.wrap .i64 (s13.2 + 1))), (86, .bool (c68 == 120))]) (by kernel_rfl) ?_
                                  refine gl_atE (by kernel_rfl) ?_
                                  refine ge_seq ?_
                                  refine gk_cond (b := (c68 == 120)) (by kernel_rfl) (by kernel_rfl) (fun hc168 => ?_) (fun hc168 => ?_)
                                  · have hj148 := cond_t hc168 hj148
                                    refine gk_seq (by kernel_rfl) ?_
                                    refine gk_seq (by kernel_rfl) ?_
                                    obtain ⟨j169, hj170, hj148⟩ := bind_some hj148
                                    refine gk_join (fun t I' L' => I74 ≤ I' ∧ C19 ++ L = L' ∧ Knows 133 [(0, .string a0), (1, .int .i64 a1), (7, .int .u8 c1), (8, .slice A17 s13.1.length n18), (9, .int .i64 (IntKind.wrap .i64 (s13.2 + 1))), (115, .bool j169)] t) ?_ ?_
                                    · refine gk_region (by kernel_rfl) ?_
                                      refine gl_pure 6 [0, 1, 7, 8, 9, 93] (K' := [(0, .string a0), (1, .int .i64 a1), (7, .int .u8 c1), (8, .slice A17 s13.1.length n18), (9, .int .i64 (IntKind.wrap .i64 (s13.2 + 1))), (93, .bool (decide ((IntKind.wrap .i64 ((IntKind.wrap .i64 (s13.2 + 1)) + 2)) ≥ (a0.size : Int))))]) (by kernel_rfl) ?_
                                      refine gl_case 93 (b := (decide ((IntKind.wrap .i64 ((IntKind.wrap .i64 (s13.2 + 1)) + 2)) ≥ (a0.size : Int)))) (by kernel_rfl) (fun hc174 => ?_) (fun hc174 => ?_)
                                      · have hj170 := cond_t hc174 hj170
                                        refine gl_pure 22 [0, 1, 7, 8, 9, 115] (K' := [(0, .string a0), (1, .int .i64 a1), (7, .int .u8 c1), (8, .slice A17 s13.1.length n18), (9, .int .i64 (IntKind.wrap .i64 (s13.2 + 1))), (115, .bool true)]) (by kernel_rfl) ?_
                                        refine gl_atE (by kernel_rfl) ?_
                                        obtain rfl := some_inj hj170
                                        exact ge_mid fun t ht => ⟨(Imm.refl _), rfl, ht.pick (l := [0, 1, 7, 8, 9, 115]) (by kernel_rfl)⟩
                                      · have hj170 := cond_f hc174 hj170
                                        refine gl_pure 3 [0, 1, 7, 8, 9, 93, 94, 96] (K' := [(0, .string a0), (1, .int .i64 a1), (7, .int .u8 c1), (8, .slice A17 s13.1.length n18), (9, .int .i64 (IntKind.wrap .i64 (s13.2 + 1))), (93, .bool false), (94, .string a0), (96, .int .i64 (IntKind.wrap .i64 ((IntKind.wrap .i64 (s13.2 + 1)) + 1)))]) (by kernel_rfl) ?_
                                        obtain ⟨c175, hx176, hj170⟩ := bind_some hj170
                                        refine gl_index' (T' := 9) (xs := (.tmp 94)) (xi := (.tmp 96)) (kd := .i64) hx176 (by kernel_rfl) (by kernel_rfl) (by kernel_rfl) (by kernel_rfl) (by kernel_rfl) ?_
                                        refine gl_callQ (by kernel_rfl) (tocsinref13_hex_walk (r := (tocsinref13_hex c175))  rfl _) ?_
                                        refine gl_pure 3 [0, 1, 7, 8, 9, 101] (K' := [(0, .string a0), (1, .int .i64 a1), (7, .int .u8 c1), (8, .slice A17 s13.1.length n18), (9, .int .i64 (IntKind.wrap .i64 (s13.2 + 1))), (101, .bool (!(tocsinref13_hex c175)))]) (by kernel_rfl) ?_
                                        refine gl_case 101 (b := (!(tocsinref13_hex c175))) (by kernel_rfl) (fun hc177 => ?_) (fun hc177 => ?_)
                                        · have hj170 := cond_t hc177 hj170
                                          refine gl_pure 14 [0, 1, 7, 8, 9, 115] (K' := [(0, .string a0), (1, .int .i64 a1), (7, .int .u8 c1), (8, .slice A17 s13.1.length n18), (9, .int .i64 (IntKind.wrap .i64 (s13.2 + 1))), (115, .bool true)]) (by kernel_rfl) ?_
                                          refine gl_atE (by kernel_rfl) ?_
                                          obtain rfl := some_inj hj170
                                          exact ge_mid fun t ht => ⟨(Imm.refl _), rfl, ht.pick (l := [0, 1, 7, 8, 9, 115]) (by kernel_rfl)⟩
                                        · have hj170 := cond_f hc177 hj170
                                          refine gl_pure 3 [0, 1, 7, 8, 9, 101, 102, 104] (K' := [(0, .string a0), (1, .int .i64 a1), (7, .int .u8 c1), (8, .slice A17 s13.1.length n18), (9, .int .i64 (IntKind.wrap .i64 (s13.2 + 1))), (101, .bool false), (102, .string a0), (104, .int .i64 (IntKind.wrap .i64 ((IntKind.wrap .i64 (s13.2 + 1)) + 2)))]) (by kernel_rfl) ?_
                                          obtain ⟨c178, hx179, hj170⟩ := bind_some hj170
                                          refine gl_index' (T' := 9) (xs := (.tmp 102)) (xi := (.tmp 104)) (kd := .i64) hx179 (by kernel_rfl) (by kernel_rfl) (by kernel_rfl) (by kernel_rfl) (by kernel_rfl) ?_
                                          refine gl_callQ (by kernel_rfl) (tocsinref13_hex_walk (r := (tocsinref13_hex c178))  rfl _) ?_
                                          refine gl_pure 3 [0, 1, 7, 8, 9, 109] (K' := [(0, .string a0), (1, .int .i64 a1), (7, .int .u8 c1), (8, .slice A17 s13.1.length n18), (9, .int .i64 (IntKind.wrap .i64 (s13.2 + 1))), (109, .bool (!(tocsinref13_hex c178)))]) (by kernel_rfl) ?_
                                          refine gl_case 109 (b := (!(tocsinref13_hex c178))) (by kernel_rfl) (fun hc180 => ?_) (fun hc180 => ?_)
                                          · have hj170 := cond_t hc180 hj170
                                            refine gl_pure 6 [0, 1, 7, 8, 9, 115] (K' := [(0, .string a0), (1, .int .i64 a1), (7, .int .u8 c1), (8, .slice A17 s13.1.length n18), (9, .int .i64 (IntKind.wrap .i64 (s13.2 + 1))), (115, .bool true)]) (by kernel_rfl) ?_
                                            refine gl_atE (by kernel_rfl) ?_
                                            obtain rfl := some_inj hj170
                                            exact ge_mid fun t ht => ⟨(Imm.refl _), rfl, ht.pick (l := [0, 1, 7, 8, 9, 115]) (by kernel_rfl)⟩
                                          · have hj170 := cond_f hc180 hj170
                                            refine gl_pure 3 [0, 1, 7, 8, 9, 109, 110, 112] (K' := [(0, .string a0), (1, .int .i64 a1), (7, .int .u8 c1), (8, .slice A17 s13.1.length n18), (9, .int .i64 (IntKind.wrap .i64 (s13.2 + 1))), (109, .bool false), (110, .string a0), (112, .int .i64 (IntKind.wrap .i64 ((IntKind.wrap .i64 (s13.2 + 1)) + 1)))]) (by kernel_rfl) ?_
                                            obtain ⟨c181, hx182, hj170⟩ := bind_some hj170
                                            refine gl_index' (T' := 9) (xs := (.tmp 110)) (xi := (.tmp 112)) (kd := .i64) hx182 (by kernel_rfl) (by kernel_rfl) (by kernel_rfl) (by kernel_rfl) (by kernel_rfl) ?_
                                            refine gl_pure 2 [0, 1, 7, 8, 9, 115] (K' := [(0, .string a0), (1, .int .i64 a1), (7, .int .u8 c1), (8, .slice A17 s13.1.length n18), (9, .int .i64 (IntKind.wrap .i64 (s13.2 + 1))), (115, .bool (decide (c181 > 55)))]) (by kernel_rfl) ?_
                                            refine gl_atE (by kernel_rfl) ?_
                                            obtain rfl := some_inj hj170
                                            exact ge_mid fun t ht => ⟨(Imm.refl _), rfl, ht.pick (l := [0, 1, 7, 8, 9, 115]) (by kernel_rfl)⟩
                                    · rintro t I173 L' ⟨hI171, rfl, hK172⟩
                                      refine ge_at hK172 ?_
                                      refine ge_seq ?_
                                      refine gk_cond (b := j169) (by kernel_rfl) (by kernel_rfl) (fun hc183 => ?_) (fun hc183 => ?_)
                                      · have hj148 := cond_t hc183 hj148
                                        refine gk_seq (by kernel_rfl) ?_
                                        refine gk_region (by kernel_rfl) ?_
                                        refine gl_pure 3 [4, 5, 6] (K' := [(4, .string (⟨#[]⟩ : ByteArray)), (5, .int .i64 0), (6, .bool false)]) (by kernel_rfl) ?_
                                        refine gl_atE (by kernel_rfl) ?_
                                        refine ge_seq ?_
                                        refine gk_reord (D := L) (Reord.skipC (Reord.refl _)) ?_
                                        refine gk_ret (by kernel_rfl) ?_
                                        refine ge_seq_ret ?_
                                        refine ge_seq_ret ?_
                                        obtain rfl := some_inj hj148
                                        refine ge_seq_ret ?_
                                        obtain rfl := some_inj hj127
                                        refine ge_seq_ret ?_
                                        obtain rfl := some_inj hj106
                                        refine ge_seq_ret ?_
                                        obtain rfl := some_inj hj83
                                        refine ge_block_ret ?_
                                        refine ge_block_ret ?_
                                        refine ge_seq_ret ?_
                                        obtain rfl := some_inj hj31
                                        refine ge_seq_ret ?_
                                        obtain rfl := some_inj hb15
                                        refine ge_round_out (fun hrr => ?_) (by intro h; cases h)
                                        obtain rfl := hrr
                                        refine ge_block_ret ?_
                                        refine ge_seq_ret ?_
                                        refine ge_seq_ret ?_
                                        obtain rfl := some_inj hr
                                        exact ge_result trivial (ResOk.tmp (by kernel_rfl) (ResOk.tmp (by kernel_rfl) (ResOk.tmp (by kernel_rfl) ResOk.nil))) (Imm.trans (Imm.trans hI16 hI72) hI171) ⟨rfl, rfl⟩
                                      · have hj148 := cond_f hc183 hj148
                                        refine gk_skip (by kernel_rfl) ?_
                                        refine ge_seq ?_
                                        refine gk_seq (by kernel_rfl) ?_
                                        refine gk_region (by kernel_rfl) ?_
                                        refine gl_pure 5 [0, 1, 7, 8, 9, 117, 119, 121] (K' := [(0, .string a0), (1, .int .i64 a1), (7, .int .u8 c1), (8, .slice A17 s13.1.length n18), (9, .int .i64 (IntKind.wrap .i64 (s13.2 + 1))), (117, .string a0), (119, .int .i64 (IntKind.wrap .i64 ((IntKind.wrap .i64 (s13.2 + 1)) + 1))), (121, .int .i64 (IntKind.wrap .i64 ((IntKind.wrap .i64 (s13.2 + 1)) + 3)))]) (by kernel_rfl) ?_
                                        obtain ⟨s185, hx184, hj148⟩ := bind_some hj148
                                        refine gl_slice' (T' := 9) (xs := (.tmp 117)) (lo := (some (.tmp 119))) (hi := (some (.tmp 121))) hx184 (by kernel_rfl) (by kernel_rfl) (by kernel_rfl) (by kernel_rfl) (by kernel_rfl) (by kernel_rfl) ?_
                                        obtain ⟨y186, hx187, hj148⟩ := bind_some hj148
                                        refine gl_callQ (by kernel_rfl) (strconv_ParseUint_walk (r := y186)  hx187 _) ?_
                                        refine gl_pure 5 [0, 1, 7, 8, 9, 11] (K' := [(0, .string a0), (1, .int .i64 a1), (7, .int .u8 c1), (8, .slice A17 s13.1.length n18), (9, .int .i64 (IntKind.wrap .i64 (s13.2 + 1))), (11, .int .u64 y186.1)]) (by kernel_rfl) ?_
                                        refine gl_atE (by kernel_rfl) ?_
                                        refine ge_seq ?_
                                        refine gk_seq (by kernel_rfl) ?_
                                        refine gk_region (by kernel_rfl) ?_
                                        refine gl_pure 3 [0, 1, 7, 9, 126, 128] (K' := [(0, .string a0), (1, .int .i64 a1), (7, .int .u8 c1), (9, .int .i64 (IntKind.wrap .i64 (s13.2 + 1))), (126, .slice A17 s13.1.length n18), (128, .int .u8 (IntKind.wrap .u8 y186.1))]) (by kernel_rfl) ?_
                                        refine gl_buildSlice (T' := 41) (e := 5) (n := 1) (len := 1) (parts := #[(0, (.tmp 128))]) (l := [(0, .int .u8 (IntKind.wrap .u8 y186.1))]) (cs := #[.int .u8 (IntKind.wrap .u8 y186.1)]) (by kernel_rfl) (by kernel_rfl) (by kernel_rfl) (by kernel_rfl) (by kernel_rfl) (fun g188 => ?_)
                                        have hO189 : OwnS (Kd.int .u8) 5 I173 (some ⟨g188, 0, none⟩) 1 [(IntKind.wrap .u8 y186.1)] [(g188, .cells #[.int .u8 (IntKind.wrap .u8 y186.1)] 5)] := OwnS.lit (row_cons (l := [.int .u8 (IntKind.wrap .u8 y186.1)]) rfl (row_nil _ _)) rfl rfl rfl
                                        refine gl_reord (D := [(g188, .cells #[.int .u8 (IntKind.wrap .u8 y186.1)] 5)] ++ (C19 ++ L)) (Reord.refl _) ?_
                                        obtain ⟨zs192, hz193, hj148⟩ := bind_some hj148
                                        refine gl_append (xv := .slice (some ⟨g188, 0, none⟩) [(IntKind.wrap .u8 y186.1)].length 1) (d := (Kd.int .u8)) (t := 41) (tx := 41) (e := 5) (s := (.tmp 126)) (x := (.tmp 129)) (xs := s13.1) (fun X => [(g188, .cells #[.int .u8 (IntKind.wrap .u8 y186.1)] 5)] ++ (X ++ L)) hz193 (by kernel_rfl) (by kernel_rfl) (by kernel_rfl) (by kernel_rfl) (by kernel_rfl) (by kernel_rfl) (fun X => (Upd.app _ (Upd.head _ X _))) (hO20.mono (Imm.trans hI72 hI171)) (SrcOk.slice (c := 1) (e := 5) (n := 1) (OwnS.rd hO189 (Upd.selfC _ _)) (by kernel_rfl)) (fun A194 n195 C196 hO197 => ?_)
                                        refine gl_pure 1 [0, 1, 7, 8, 9] (K' := [(0, .string a0), (1, .int .i64 a1), (7, .int .u8 c1), (8, .slice A194 zs192.length n195), (9, .int .i64 (IntKind.wrap .i64 (s13.2 + 1)))]) (by kernel_rfl) ?_
                                        refine gl_atE (by kernel_rfl) ?_
                                        refine ge_seq ?_
                                        refine gk_region (by kernel_rfl) ?_
                                        refine gl_pure 3 [0, 1, 7, 8, 9] (K' := [(0, .string a0), (1, .int .i64 a1), (7, .int .u8 c1), (8, .slice A194 zs192.length n195), (9, .int .i64 (IntKind.wrap .i64 ((IntKind.wrap .i64 (s13.2 + 1)) + 2)))]) (by kernel_rfl) ?_
                                        refine gl_reord (D := C196 ++ L) (Reord.step (Upd.app _ (Upd.rmC _ _)) (Reord.skipC (Reord.refl _))) ?_
                                        refine gl_atE (by kernel_rfl) ?_
                                        obtain rfl := some_inj hj148
                                        exact ge_mid fun t ht => ⟨_, rfl, A194, n195, C196, hO197, hI171, rfl, ht.pick (l := [0, 1, 7, 8, 9]) (by kernel_rfl)⟩
                                  · have hj148 := cond_f hc168 hj148
                                    refine gk_seq (by kernel_rfl) ?_
                                    refine gk_region (by kernel_rfl) ?_
                                    refine gl_pure 3 [4, 5, 6] (K' := [(4, .string (⟨#[]⟩ : ByteArray)), (5, .int .i64 0), (6, .bool false)]) (by kernel_rfl) ?_
                                    refine gl_atE (by kernel_rfl) ?_
                                    refine ge_seq ?_
                                    refine gk_reord (D := L) (Reord.skipC (Reord.refl _)) ?_
                                    refine gk_ret (by kernel_rfl) ?_
                                    refine ge_seq_ret ?_
                                    obtain rfl := some_inj hj148
                                    refine ge_seq_ret ?_
                                    obtain rfl := some_inj hj127
                                    refine ge_seq_ret ?_
                                    obtain rfl := some_inj hj106
                                    refine ge_seq_ret ?_
                                    obtain rfl := some_inj hj83
                                    refine ge_block_ret ?_
                                    refine ge_block_ret ?_
                                    refine ge_seq_ret ?_
                                    obtain rfl := some_inj hj31
                                    refine ge_seq_ret ?_
                                    obtain rfl := some_inj hb15
                                    refine ge_round_out (fun hrr => ?_) (by intro h; cases h)
                                    obtain rfl := hrr
                                    refine ge_block_ret ?_
                                    refine ge_seq_ret ?_
                                    refine ge_seq_ret ?_
                                    obtain rfl := some_inj hr
                                    exact ge_result trivial (ResOk.tmp (by kernel_rfl) (ResOk.tmp (by kernel_rfl) (ResOk.tmp (by kernel_rfl) ResOk.nil))) (Imm.trans hI16 hI72) ⟨rfl, rfl⟩
                              · rintro t I156 L' ⟨j149, rfl, A151, n152, C153, hO154, hI150, rfl, hK155⟩
                                refine ge_at hK155 ?_
                                obtain rfl := some_inj hj127
                                exact ge_mid fun t ht => ⟨_, rfl, A151, n152, C153, hO154, hI150, rfl, ht.pick (l := [0, 1, 7, 8, 9]) (by kernel_rfl)⟩
                          · rintro t I135 L' ⟨j128, rfl, A130, n131, C132, hO133, hI129, rfl, hK134⟩
                            refine ge_at hK134 ?_
                            obtain rfl := some_inj hj106
                            exact ge_mid fun t ht => ⟨_, rfl, A130, n131, C132, hO133, hI129, rfl, ht.pick (l := [0, 1, 7, 8, 9]) (by kernel_rfl)⟩
                      · rintro t I114 L' ⟨j107, rfl, A109, n110, C111, hO112, hI108, rfl, hK113⟩
                        refine ge_at hK113 ?_
                        obtain rfl := some_inj hj83
                        exact ge_mid fun t ht => ⟨_, rfl, A109, n110, C111, hO112, hI108, rfl, ht.pick (l := [0, 1, 7, 8, 9]) (by kernel_rfl)⟩
                  · rintro t I91 L' ⟨j84, rfl, A86, n87, C88, hO89, hI85, rfl, hK90⟩
                    refine ge_at hK90 ?_
                    refine ge_block_normal ?_
                    refine ge_block_normal ?_
                    obtain rfl := some_inj hj31
                    exact ge_mid fun t ht => ⟨_, rfl, A86, n87, C88, hO89, (Imm.trans hI72 hI85), rfl, ht.pick (l := [0, 1, 7, 8, 9]) (by kernel_rfl)⟩
      · rintro t I39 L' ⟨j32, rfl, A34, n35, C36, hO37, hI33, rfl, hK38⟩
        refine ge_at hK38 ?_
        refine ge_seq ?_
        refine gk_region (by kernel_rfl) ?_
        refine gl_pure 3 [0, 1, 7, 8, 9] (K' := [(0, .string a0), (1, .int .i64 a1), (7, .int .u8 c1), (8, .slice A34 j32.1.length n35), (9, .int .i64 (IntKind.wrap .i64 (j32.2 + 1)))]) (by kernel_rfl) ?_
        refine gl_atE (by kernel_rfl) ?_
        obtain rfl := some_inj hb15
        exact ge_round fun t ht => ⟨A34, n35, C36, hO37, (Imm.trans hI16 hI33), rfl, ht.pick (l := [0, 1, 7, 8, 9]) (by kernel_rfl)⟩
    · have hb15 := cond_f hc29 hb15
      refine gk_reord (D := L) (Reord.skipC (Reord.refl _)) ?_
      refine gk_exit (by kernel_rfl) ?_
      refine ge_seq_exit ?_
      obtain rfl := some_inj hb15
      refine ge_round_out (fun hrr => ?_) (by intro h; cases h)
      obtain rfl := hrr
      refine ge_block_hit (by kernel_rfl) ?_
      exact ge_mid fun t ht => ⟨_, rfl, hI16, rfl, ht.pick (l := []) (by kernel_rfl)⟩
  · rintro t I26 L' ⟨r23, rfl, hI24, rfl, hK25⟩
    refine ge_at hK25 ?_
    refine ge_seq ?_
    refine gk_seq (by kernel_rfl) ?_
    refine gk_region (by kernel_rfl) ?_
    refine gl_pure 3 [4, 5, 6] (K' := [(4, .string (⟨#[]⟩ : ByteArray)), (5, .int .i64 0), (6, .bool false)]) (by kernel_rfl) ?_
    refine gl_atE (by kernel_rfl) ?_
    refine ge_seq ?_
    refine gk_ret (by kernel_rfl) ?_
    obtain rfl := some_inj hr
    exact ge_result trivial (ResOk.tmp (by kernel_rfl) (ResOk.tmp (by kernel_rfl) (ResOk.tmp (by kernel_rfl) ResOk.nil))) hI24 ⟨rfl, rfl⟩
/-! 61 tocsinref13_run  -/
noncomputable def tocsinref13_run_l16 (a0 : ByteArray) : Int → Option ((Int) ⊕ (Int)) := fun s7 =>
  Option.bind (bif (decide (s7 < (a0.size : Int))) then
    (Option.bind (bx a0 s7) fun (c24 : Int) =>
      some (tocsinref13_digit c24))
    else
    (some false)) fun (j18 : Bool) =>
  bif j18 then
  (some (Sum.inl (IntKind.wrap .i64 (s7 + 1))))
  else
  (some (Sum.inr s7))
noncomputable def tocsinref13_run (a0 : ByteArray) (a1 : Int) : Option Int :=
  Option.bind (loopO (tocsinref13_run_l16 a0) a1) fun (r5 : Int) =>
  some r5
theorem tocsinref13_run_walk {a0 : ByteArray} {a1 : Int} {I : Imm} {r : Int}  (hr : tocsinref13_run a0 a1 = some r) (L : Own) :
    CallsTo Tryd.prog 61 #[.string a0, .int .i64 a1] I L (fun v I' L' => v = .int .i64 r ∧ L = L') := by
  unfold tocsinref13_run at hr
  refine callsTo_body (N := 18) Tryd.func61 (by kernel_rfl) (by kernel_rfl) (by kernel_rfl) ?_
  refine gk_pick [0, 1] (K' := [(0, .string a0), (1, .int .i64 a1)]) (by kernel_rfl) ?_
  refine gk_seq (by kernel_rfl) ?_
  refine gk_region (by kernel_rfl) ?_
  refine gl_pure 1 [0, 1] (K' := [(0, .string a0), (1, .int .i64 a1)]) (by kernel_rfl) ?_
  refine gl_atE (by kernel_rfl) ?_
  refine ge_seq ?_
  refine gk_seq (by kernel_rfl) ?_
  obtain ⟨r5, hl6, hr⟩ := bind_some hr
  refine gk_join (fun t I' L' => I ≤ I' ∧ L = L' ∧ Knows 18 [(1, .int .i64 r5)] t) ?_ ?_
  · refine gk_block (by kernel_rfl) ?_
    refine gk_pick [0, 1] (K' := [(0, .string a0), (1, .int .i64 a1)]) (by kernel_rfl) ?_
    intro t hK
    refine gc_loop (tocsinref13_run_l16 a0) (fun s7 t I' L' => I ≤ I' ∧ L = L' ∧ Knows 18 [(0, .string a0), (1, .int .i64 s7)] t) (by kernel_rfl) ?_ hl6 ⟨(Imm.refl _), rfl, hK⟩
    rintro s7 o8 t I12 L' hb9 ⟨hI10, rfl, hK11⟩
    unfold tocsinref13_run_l16 at hb9
    refine gk_at hK11 ?_
    refine gk_seq (by kernel_rfl) ?_
    refine gk_seq (by kernel_rfl) ?_
    obtain ⟨j18, hj19, hb9⟩ := bind_some hb9
    refine gk_join (fun t I' L' => I12 ≤ I' ∧ L = L' ∧ Knows 18 [(0, .string a0), (1, .int .i64 s7), (14, .bool j18)] t) ?_ ?_
    · refine gk_region (by kernel_rfl) ?_
      refine gl_pure 5 [0, 1, 9] (K' := [(0, .string a0), (1, .int .i64 s7), (9, .bool (decide (s7 < (a0.size : Int))))]) (by kernel_rfl) ?_
      refine gl_case 9 (b := (decide (s7 < (a0.size : Int)))) (by kernel_rfl) (fun hc23 => ?_) (fun hc23 => ?_)
      · have hj19 := cond_t hc23 hj19
        refine gl_pure 2 [0, 1, 9, 10, 11] (K' := [(0, .string a0), (1, .int .i64 s7), (9, .bool true), (10, .string a0), (11, .int .i64 s7)]) (by kernel_rfl) ?_
        obtain ⟨c24, hx25, hj19⟩ := bind_some hj19
        refine gl_index' (T' := 9) (xs := (.tmp 10)) (xi := (.tmp 11)) (kd := .i64) hx25 (by kernel_rfl) (by kernel_rfl) (by kernel_rfl) (by kernel_rfl) (by kernel_rfl) ?_
        refine gl_callQ (by kernel_rfl) (tocsinref13_digit_walk (r := (tocsinref13_digit c24))  rfl _) ?_
        refine gl_pure 1 [0, 1, 14] (K' := [(0, .string a0), (1, .int .i64 s7), (14, .bool (tocsinref13_digit c24))]) (by kernel_rfl) ?_
        refine gl_atE (by kernel_rfl) ?_
        obtain rfl := some_inj hj19
        exact ge_mid fun t ht => ⟨(Imm.refl _), rfl, ht.pick (l := [0, 1, 14]) (by kernel_rfl)⟩
      · have hj19 := cond_f hc23 hj19
        refine gl_pure 5 [0, 1, 14] (K' := [(0, .string a0), (1, .int .i64 s7), (14, .bool false)]) (by kernel_rfl) ?_
        refine gl_atE (by kernel_rfl) ?_
        obtain rfl := some_inj hj19
        exact ge_mid fun t ht => ⟨(Imm.refl _), rfl, ht.pick (l := [0, 1, 14]) (by kernel_rfl)⟩
    · rintro t I22 L' ⟨hI20, rfl, hK21⟩
      refine ge_at hK21 ?_
      refine ge_seq ?_
      refine gk_cond (b := j18) (by kernel_rfl) (by kernel_rfl) (fun hc26 => ?_) (fun hc26 => ?_)
      · have hb9 := cond_t hc26 hb9
        refine gk_skip (by kernel_rfl) ?_
        refine ge_seq ?_
        refine gk_block (by kernel_rfl) ?_
        refine gk_region (by kernel_rfl) ?_
        refine gl_pure 3 [0, 1] (K' := [(0, .string a0), (1, .int .i64 (IntKind.wrap .i64 (s7 + 1)))]) (by kernel_rfl) ?_
        refine gl_atE (by kernel_rfl) ?_
        refine ge_block_normal ?_
        obtain rfl := some_inj hb9
        exact ge_round fun t ht => ⟨(Imm.trans hI10 hI20), rfl, ht.pick (l := [0, 1]) (by kernel_rfl)⟩
      · have hb9 := cond_f hc26 hb9
        refine gk_exit (by kernel_rfl) ?_
        refine ge_seq_exit ?_
        obtain rfl := some_inj hb9
        refine ge_round_out (fun hrr => ?_) (by intro h; cases h)
        obtain rfl := hrr
        refine ge_block_hit (by kernel_rfl) ?_
        exact ge_mid fun t ht => ⟨(Imm.trans hI10 hI20), rfl, ht.pick (l := [1]) (by kernel_rfl)⟩
  · rintro t I15 L' ⟨hI13, rfl, hK14⟩
    refine ge_at hK14 ?_
    refine ge_seq ?_
    refine gk_seq (by kernel_rfl) ?_
    refine gk_region (by kernel_rfl) ?_
    refine gl_pure 2 [4] (K' := [(4, .int .i64 r5)]) (by kernel_rfl) ?_
    refine gl_atE (by kernel_rfl) ?_
    refine ge_seq ?_
    refine gk_ret (by kernel_rfl) ?_
    obtain rfl := some_inj hr
    exact ge_result trivial (ResOk.tmp (by kernel_rfl) ResOk.nil) hI13 ⟨rfl, rfl⟩
/-! 46 tocsinref13_number  -/
noncomputable def tocsinref13_number_l36 (a0 : ByteArray) : Int → Option ((Int) ⊕ (Int)) := fun s27 =>
  Option.bind (bif (decide (s27 < (a0.size : Int))) then
    (Option.bind (bx a0 s27) fun (c44 : Int) =>
      some (tocsinref13_hex c44))
    else
    (some false)) fun (j38 : Bool) =>
  bif j38 then
  (some (Sum.inl (IntKind.wrap .i64 (s27 + 1))))
  else
  (some (Sum.inr s27))
noncomputable def tocsinref13_number (a0 : ByteArray) (a1 : Int) : Option Int :=
  Option.bind (bif (decide ((IntKind.wrap .i64 (a1 + 2)) < (a0.size : Int))) then
    (Option.bind (bx a0 a1) fun (c7 : Int) =>
      bif (c7 == 48) then
      (Option.bind (bx a0 (IntKind.wrap .i64 (a1 + 1))) fun (c10 : Int) =>
        bif (c10 == 120) then
        (Option.bind (bx a0 (IntKind.wrap .i64 (a1 + 2))) fun (c13 : Int) =>
          some (tocsinref13_hex c13))
        else
        (Option.bind (bx a0 (IntKind.wrap .i64 (a1 + 1))) fun (c15 : Int) =>
          bif (c15 == 88) then
          (Option.bind (bx a0 (IntKind.wrap .i64 (a1 + 2))) fun (c18 : Int) =>
            some (tocsinref13_hex c18))
          else
          (some false)))
      else
      (some false))
    else
    (some false)) fun (j1 : Bool) =>
  bif j1 then
  (Option.bind (loopO (tocsinref13_number_l36 a0) (IntKind.wrap .i64 (a1 + 2))) fun (r25 : Int) =>
    some r25)
  else
  (Option.bind (tocsinref13_run a0 a1) fun (y47 : Int) =>
    Option.bind (bif (decide (y47 < (a0.size : Int))) then
      (Option.bind (bx a0 y47) fun (c55 : Int) =>
        bif (c55 == 46) then
        (bif (decide (y47 > a1)) then
          (some true)
          else
          (bif (decide ((IntKind.wrap .i64 (y47 + 1)) < (a0.size : Int))) then
            (Option.bind (bx a0 (IntKind.wrap .i64 (y47 + 1))) fun (c60 : Int) =>
              some (tocsinref13_digit c60))
            else
            (some false)))
        else
        (some false))
      else
      (some false)) fun (j49 : Bool) =>
    Option.bind (bif j49 then
      (Option.bind (tocsinref13_run a0 (IntKind.wrap .i64 (y47 + 1))) fun (y68 : Int) =>
        some y68)
      else
      (some y47)) fun (j62 : Int) =>
    bif (j62 == a1) then
    (some a1)
    else
    (Option.bind (bif (decide (j62 < (a0.size : Int))) then
        (Option.bind (bx a0 j62) fun (c77 : Int) =>
          bif (c77 == 101) then
          (some true)
          else
          (Option.bind (bx a0 j62) fun (c80 : Int) =>
            some (c80 == 69)))
        else
        (some false)) fun (j71 : Bool) =>
      Option.bind ((bif j71 then
        (Option.bind (bif (decide ((IntKind.wrap .i64 (j62 + 1)) < (a0.size : Int))) then
            (Option.bind (bx a0 (IntKind.wrap .i64 (j62 + 1))) fun (c95 : Int) =>
              bif (c95 == 43) then
              (some true)
              else
              (Option.bind (bx a0 (IntKind.wrap .i64 (j62 + 1))) fun (c98 : Int) =>
                some (c98 == 45)))
            else
            (some false)) fun (j89 : Bool) =>
          Option.bind (bif j89 then
            (some (IntKind.wrap .i64 ((IntKind.wrap .i64 (j62 + 1)) + 1)))
            else
            (some (IntKind.wrap .i64 (j62 + 1)))) fun (j100 : Int) =>
          Option.bind (tocsinref13_run a0 j100) fun (y106 : Int) =>
          bif (decide (y106 > j100)) then
          (Option.bind (tocsinref13_run a0 j100) fun (y109 : Int) =>
            some (Sum.inr y109))
          else
          (some (Sum.inl ())))
        else
        (some (Sum.inl ())) : Option ((Unit) ⊕ (Int)))) fun (j82 : (Unit) ⊕ (Int)) =>
      match j82 with
      | Sum.inl j84 => some j62
      | Sum.inr v111 => some v111))
theorem tocsinref13_number_walk {a0 : ByteArray} {a1 : Int} {I : Imm} {r : Int}  (hr : tocsinref13_number a0 a1 = some r) (L : Own) :
    CallsTo Tryd.prog 46 #[.string a0, .int .i64 a1] I L (fun v I' L' => v = .int .i64 r ∧ L = L') := by
  unfold tocsinref13_number at hr
  refine callsTo_body (N := 141) Tryd.func46 (by kernel_rfl) (by kernel_rfl) (by kernel_rfl) ?_
  refine gk_pick [0, 1] (K' := [(0, .string a0), (1, .int .i64 a1)]) (by kernel_rfl) ?_
  refine gk_seq (by kernel_rfl) ?_
  refine gk_region (by kernel_rfl) ?_
  refine gl_pure 1 [0, 1] (K' := [(0, .string a0), (1, .int .i64 a1)]) (by kernel_rfl) ?_
  refine gl_atE (by kernel_rfl) ?_
  refine ge_seq ?_
  refine gk_seq (by kernel_rfl) ?_
  refine gk_seq (by kernel_rfl) ?_
  obtain ⟨j1, hj2, hr⟩ := bind_some hr
  refine gk_join (fun t I' L' => I ≤ I' ∧ L = L' ∧ Knows 141 [(0, .string a0), (1, .int .i64 a1), (39, .bool j1)] t) ?_ ?_
  · refine gk_region (by kernel_rfl) ?_
    refine gl_pure 6 [0, 1, 13] (K' := [(0, .string a0), (1, .int .i64 a1), (13, .bool (decide ((IntKind.wrap .i64 (a1 + 2)) < (a0.size : Int))))]) (by kernel_rfl) ?_
    refine gl_case 13 (b := (decide ((IntKind.wrap .i64 (a1 + 2)) < (a0.size : Int)))) (by kernel_rfl) (fun hc6 => ?_) (fun hc6 => ?_)
    · have hj2 := cond_t hc6 hj2
      refine gl_pure 2 [0, 1, 13, 14, 15] (K' := [(0, .string a0), (1, .int .i64 a1), (13, .bool true), (14, .string a0), (15, .int .i64 a1)]) (by kernel_rfl) ?_
      obtain ⟨c7, hx8, hj2⟩ := bind_some hj2
      refine gl_index' (T' := 9) (xs := (.tmp 14)) (xi := (.tmp 15)) (kd := .i64) hx8 (by kernel_rfl) (by kernel_rfl) (by kernel_rfl) (by kernel_rfl) (by kernel_rfl) ?_
      refine gl_pure 3 [0, 1, 19] (K' := [(0, .string a0), (1, .int .i64 a1), (19, .bool (c7 == 48))]) (by kernel_rfl) ?_
      refine gl_case 19 (b := (c7 == 48)) (by kernel_rfl) (fun hc9 => ?_) (fun hc9 => ?_)
      · have hj2 := cond_t hc9 hj2
        refine gl_pure 3 [0, 1, 19, 20, 22] (K' := [(0, .string a0), (1, .int .i64 a1), (19, .bool true), (20, .string a0), (22, .int .i64 (IntKind.wrap .i64 (a1 + 1)))]) (by kernel_rfl) ?_
        obtain ⟨c10, hx11, hj2⟩ := bind_some hj2
        refine gl_index' (T' := 9) (xs := (.tmp 20)) (xi := (.tmp 22)) (kd := .i64) hx11 (by kernel_rfl) (by kernel_rfl) (by kernel_rfl) (by kernel_rfl) (by kernel_rfl) ?_
        refine gl_pure 2 [0, 1, 19, 25] (K' := [(0, .string a0), (1, .int .i64 a1), (19, .bool true), (25, .bool (c10 == 120))]) (by kernel_rfl) ?_
        refine gl_case 25 (b := (c10 == 120)) (by kernel_rfl) (fun hc12 => ?_) (fun hc12 => ?_)
        · have hj2 := cond_t hc12 hj2
          refine gl_pure 11 [0, 1, 33, 34, 36] (K' := [(0, .string a0), (1, .int .i64 a1), (33, .bool true), (34, .string a0), (36, .int .i64 (IntKind.wrap .i64 (a1 + 2)))]) (by kernel_rfl) ?_
          obtain ⟨c13, hx14, hj2⟩ := bind_some hj2
          refine gl_index' (T' := 9) (xs := (.tmp 34)) (xi := (.tmp 36)) (kd := .i64) hx14 (by kernel_rfl) (by kernel_rfl) (by kernel_rfl) (by kernel_rfl) (by kernel_rfl) ?_
          refine gl_callQ (by kernel_rfl) (tocsinref13_hex_walk (r := (tocsinref13_hex c13))  rfl _) ?_
          refine gl_pure 1 [0, 1, 39] (K' := [(0, .string a0), (1, .int .i64 a1), (39, .bool (tocsinref13_hex c13))]) (by kernel_rfl) ?_
          refine gl_atE (by kernel_rfl) ?_
          obtain rfl := some_inj hj2
          exact ge_mid fun t ht => ⟨(Imm.refl _), rfl, ht.pick (l := [0, 1, 39]) (by kernel_rfl)⟩
        · have hj2 := cond_f hc12 hj2
          refine gl_pure 3 [0, 1, 19, 25, 26, 28] (K' := [(0, .string a0), (1, .int .i64 a1), (19, .bool true), (25, .bool false), (26, .string a0), (28, .int .i64 (IntKind.wrap .i64 (a1 + 1)))]) (by kernel_rfl) ?_
          obtain ⟨c15, hx16, hj2⟩ := bind_some hj2
          refine gl_index' (T' := 9) (xs := (.tmp 26)) (xi := (.tmp 28)) (kd := .i64) hx16 (by kernel_rfl) (by kernel_rfl) (by kernel_rfl) (by kernel_rfl) (by kernel_rfl) ?_
          refine gl_pure 4 [0, 1, 33] (K' := [(0, .string a0), (1, .int .i64 a1), (33, .bool (c15 == 88))]) (by kernel_rfl) ?_
          refine gl_case 33 (b := (c15 == 88)) (by kernel_rfl) (fun hc17 => ?_) (fun hc17 => ?_)
          · have hj2 := cond_t hc17 hj2
            refine gl_pure 3 [0, 1, 33, 34, 36] (K' := [(0, .string a0), (1, .int .i64 a1), (33, .bool true), (34, .string a0), (36, .int .i64 (IntKind.wrap .i64 (a1 + 2)))]) (by kernel_rfl) ?_
            obtain ⟨c18, hx19, hj2⟩ := bind_some hj2
            refine gl_index' (T' := 9) (xs := (.tmp 34)) (xi := (.tmp 36)) (kd := .i64) hx19 (by kernel_rfl) (by kernel_rfl) (by kernel_rfl) (by kernel_rfl) (by kernel_rfl) ?_
            refine gl_callQ (by kernel_rfl) (tocsinref13_hex_walk (r := (tocsinref13_hex c18))  rfl _) ?_
            refine gl_pure 1 [0, 1, 39] (K' := [(0, .string a0), (1, .int .i64 a1), (39, .bool (tocsinref13_hex c18))]) (by kernel_rfl) ?_
            refine gl_atE (by kernel_rfl) ?_
            obtain rfl := some_inj hj2
            exact ge_mid fun t ht => ⟨(Imm.refl _), rfl, ht.pick (l := [0, 1, 39]) (by kernel_rfl)⟩
          · have hj2 := cond_f hc17 hj2
            refine gl_pure 6 [0, 1, 39] (K' := [(0, .string a0), (1, .int .i64 a1), (39, .bool false)]) (by kernel_rfl) ?_
            refine gl_atE (by kernel_rfl) ?_
            obtain rfl := some_inj hj2
            exact ge_mid fun t ht => ⟨(Imm.refl _), rfl, ht.pick (l := [0, 1, 39]) (by kernel_rfl)⟩
      · have hj2 := cond_f hc9 hj2
        refine gl_pure 20 [0, 1, 39] (K' := [(0, .string a0), (1, .int .i64 a1), (39, .bool false)]) (by kernel_rfl) ?_
        refine gl_atE (by kernel_rfl) ?_
        obtain rfl := some_inj hj2
        exact ge_mid fun t ht => ⟨(Imm.refl _), rfl, ht.pick (l := [0, 1, 39]) (by kernel_rfl)⟩
    · have hj2 := cond_f hc6 hj2
      refine gl_pure 26 [0, 1, 39] (K' := [(0, .string a0), (1, .int .i64 a1), (39, .bool false)]) (by kernel_rfl) ?_
      refine gl_atE (by kernel_rfl) ?_
      obtain rfl := some_inj hj2
      exact ge_mid fun t ht => ⟨(Imm.refl _), rfl, ht.pick (l := [0, 1, 39]) (by kernel_rfl)⟩
  · rintro t I5 L' ⟨hI3, rfl, hK4⟩
    refine ge_at hK4 ?_
    refine ge_seq ?_
    refine gk_cond (b := j1) (by kernel_rfl) (by kernel_rfl) (fun hc20 => ?_) (fun hc20 => ?_)
    · have hr := cond_t hc20 hr
      refine gk_seq (by kernel_rfl) ?_
      refine gk_region (by kernel_rfl) ?_
      refine gl_pure 3 [0, 5] (K' := [(0, .string a0), (5, .int .i64 (IntKind.wrap .i64 (a1 + 2)))]) (by kernel_rfl) ?_
      refine gl_atE (by kernel_rfl) ?_
      refine ge_seq ?_
      refine gk_seq (by kernel_rfl) ?_
      obtain ⟨r25, hl26, hr⟩ := bind_some hr
      refine gk_join (fun t I' L' => I5 ≤ I' ∧ L = L' ∧ Knows 141 [(5, .int .i64 r25)] t) ?_ ?_
      · refine gk_block (by kernel_rfl) ?_
        refine gk_pick [0, 5] (K' := [(0, .string a0), (5, .int .i64 (IntKind.wrap .i64 (a1 + 2)))]) (by kernel_rfl) ?_
        intro t hK
        refine gc_loop (tocsinref13_number_l36 a0) (fun s27 t I' L' => I5 ≤ I' ∧ L = L' ∧ Knows 141 [(0, .string a0), (5, .int .i64 s27)] t) (by kernel_rfl) ?_ hl26 ⟨(Imm.refl _), rfl, hK⟩
        rintro s27 o28 t I32 L' hb29 ⟨hI30, rfl, hK31⟩
        unfold tocsinref13_number_l36 at hb29
        refine gk_at hK31 ?_
        refine gk_seq (by kernel_rfl) ?_
        refine gk_seq (by kernel_rfl) ?_
        obtain ⟨j38, hj39, hb29⟩ := bind_some hb29
        refine gk_join (fun t I' L' => I32 ≤ I' ∧ L = L' ∧ Knows 141 [(0, .string a0), (5, .int .i64 s27), (51, .bool j38)] t) ?_ ?_
        · refine gk_region (by kernel_rfl) ?_
          refine gl_pure 5 [0, 5, 46] (K' := [(0, .string a0), (5, .int .i64 s27), (46, .bool (decide (s27 < (a0.size : Int))))]) (by kernel_rfl) ?_
          refine gl_case 46 (b := (decide (s27 < (a0.size : Int)))) (by kernel_rfl) (fun hc43 => ?_) (fun hc43 => ?_)
          · have hj39 := cond_t hc43 hj39
            refine gl_pure 2 [0, 5, 46, 47, 48] (K' := [(0, .string a0), (5, .int .i64 s27), (46, .bool true), (47, .string a0), (48, .int .i64 s27)]) (by kernel_rfl) ?_
            obtain ⟨c44, hx45, hj39⟩ := bind_some hj39
            refine gl_index' (T' := 9) (xs := (.tmp 47)) (xi := (.tmp 48)) (kd := .i64) hx45 (by kernel_rfl) (by kernel_rfl) (by kernel_rfl) (by kernel_rfl) (by kernel_rfl) ?_
            refine gl_callQ (by kernel_rfl) (tocsinref13_hex_walk (r := (tocsinref13_hex c44))  rfl _) ?_
            refine gl_pure 1 [0, 5, 51] (K' := [(0, .string a0), (5, .int .i64 s27), (51, .bool (tocsinref13_hex c44))]) (by kernel_rfl) ?_
            refine gl_atE (by kernel_rfl) ?_
            obtain rfl := some_inj hj39
            exact ge_mid fun t ht => ⟨(Imm.refl _), rfl, ht.pick (l := [0, 5, 51]) (by kernel_rfl)⟩
          · have hj39 := cond_f hc43 hj39
            refine gl_pure 5 [0, 5, 51] (K' := [(0, .string a0), (5, .int .i64 s27), (51, .bool false)]) (by kernel_rfl) ?_
            refine gl_atE (by kernel_rfl) ?_
            obtain rfl := some_inj hj39
            exact ge_mid fun t ht => ⟨(Imm.refl _), rfl, ht.pick (l := [0, 5, 51]) (by kernel_rfl)⟩
        · rintro t I42 L' ⟨hI40, rfl, hK41⟩
          refine ge_at hK41 ?_
          refine ge_seq ?_
          refine gk_cond (b := j38) (by kernel_rfl) (by kernel_rfl) (fun hc46 => ?_) (fun hc46 => ?_)
          · have hb29 := cond_t hc46 hb29
            refine gk_skip (by kernel_rfl) ?_
            refine ge_seq ?_
            refine gk_block (by kernel_rfl) ?_
            refine gk_region (by kernel_rfl) ?_
            refine gl_pure 3 [0, 5] (K' := [(0, .string a0), (5, .int .i64 (IntKind.wrap .i64 (s27 + 1)))]) (by kernel_rfl) ?_
            refine gl_atE (by kernel_rfl) ?_
            refine ge_block_normal ?_
            obtain rfl := some_inj hb29
            exact ge_round fun t ht => ⟨(Imm.trans hI30 hI40), rfl, ht.pick (l := [0, 5]) (by kernel_rfl)⟩
          · have hb29 := cond_f hc46 hb29
            refine gk_exit (by kernel_rfl) ?_
            refine ge_seq_exit ?_
            obtain rfl := some_inj hb29
            refine ge_round_out (fun hrr => ?_) (by intro h; cases h)
            obtain rfl := hrr
            refine ge_block_hit (by kernel_rfl) ?_
            exact ge_mid fun t ht => ⟨(Imm.trans hI30 hI40), rfl, ht.pick (l := [5]) (by kernel_rfl)⟩
      · rintro t I35 L' ⟨hI33, rfl, hK34⟩
        refine ge_at hK34 ?_
        refine ge_seq ?_
        refine gk_seq (by kernel_rfl) ?_
        refine gk_region (by kernel_rfl) ?_
        refine gl_pure 2 [4] (K' := [(4, .int .i64 r25)]) (by kernel_rfl) ?_
        refine gl_atE (by kernel_rfl) ?_
        refine ge_seq ?_
        refine gk_ret (by kernel_rfl) ?_
        refine ge_seq_ret ?_
        obtain rfl := some_inj hr
        exact ge_result trivial (ResOk.tmp (by kernel_rfl) ResOk.nil) (Imm.trans hI3 hI33) ⟨rfl, rfl⟩
    · have hr := cond_f hc20 hr
      refine gk_skip (by kernel_rfl) ?_
      refine ge_seq ?_
      refine gk_seq (by kernel_rfl) ?_
      refine gk_region (by kernel_rfl) ?_
      refine gl_pure 2 [0, 1, 55, 56] (K' := [(0, .string a0), (1, .int .i64 a1), (55, .string a0), (56, .int .i64 a1)]) (by kernel_rfl) ?_
      obtain ⟨y47, hx48, hr⟩ := bind_some hr
      refine gl_callQ (by kernel_rfl) (tocsinref13_run_walk (r := y47)  hx48 _) ?_
      refine gl_pure 1 [0, 1, 6] (K' := [(0, .string a0), (1, .int .i64 a1), (6, .int .i64 y47)]) (by kernel_rfl) ?_
      refine gl_atE (by kernel_rfl) ?_
      refine ge_seq ?_
      refine gk_seq (by kernel_rfl) ?_
      refine gk_seq (by kernel_rfl) ?_
      obtain ⟨j49, hj50, hr⟩ := bind_some hr
      refine gk_join (fun t I' L' => I5 ≤ I' ∧ L = L' ∧ Knows 141 [(0, .string a0), (1, .int .i64 a1), (6, .int .i64 y47), (86, .bool j49)] t) ?_ ?_
      · refine gk_region (by kernel_rfl) ?_
        refine gl_pure 5 [0, 1, 6, 62] (K' := [(0, .string a0), (1, .int .i64 a1), (6, .int .i64 y47), (62, .bool (decide (y47 < (a0.size : Int))))]) (by kernel_rfl) ?_
        refine gl_case 62 (b := (decide (y47 < (a0.size : Int)))) (by kernel_rfl) (fun hc54 => ?_) (fun hc54 => ?_)
        · have hj50 := cond_t hc54 hj50
          refine gl_pure 2 [0, 1, 6, 62, 63, 64] (K' := [(0, .string a0), (1, .int .i64 a1), (6, .int .i64 y47), (62, .bool true), (63, .string a0), (64, .int .i64 y47)]) (by kernel_rfl) ?_
          obtain ⟨c55, hx56, hj50⟩ := bind_some hj50
          refine gl_index' (T' := 9) (xs := (.tmp 63)) (xi := (.tmp 64)) (kd := .i64) hx56 (by kernel_rfl) (by kernel_rfl) (by kernel_rfl) (by kernel_rfl) (by kernel_rfl) ?_
          refine gl_pure 3 [0, 1, 6, 68] (K' := [(0, .string a0), (1, .int .i64 a1), (6, .int .i64 y47), (68, .bool (c55 == 46))]) (by kernel_rfl) ?_
          refine gl_case 68 (b := (c55 == 46)) (by kernel_rfl) (fun hc57 => ?_) (fun hc57 => ?_)
          · have hj50 := cond_t hc57 hj50
            refine gl_pure 4 [0, 1, 6, 68, 72] (K' := [(0, .string a0), (1, .int .i64 a1), (6, .int .i64 y47), (68, .bool true), (72, .bool (decide (y47 > a1)))]) (by kernel_rfl) ?_
            refine gl_case 72 (b := (decide (y47 > a1))) (by kernel_rfl) (fun hc58 => ?_) (fun hc58 => ?_)
            · have hj50 := cond_t hc58 hj50
              refine gl_pure 14 [0, 1, 6, 86] (K' := [(0, .string a0), (1, .int .i64 a1), (6, .int .i64 y47), (86, .bool true)]) (by kernel_rfl) ?_
              refine gl_atE (by kernel_rfl) ?_
              obtain rfl := some_inj hj50
              exact ge_mid fun t ht => ⟨(Imm.refl _), rfl, ht.pick (l := [0, 1, 6, 86]) (by kernel_rfl)⟩
            · have hj50 := cond_f hc58 hj50
              refine gl_pure 6 [0, 1, 6, 68, 72, 78] (K' := [(0, .string a0), (1, .int .i64 a1), (6, .int .i64 y47), (68, .bool true), (72, .bool false), (78, .bool (decide ((IntKind.wrap .i64 (y47 + 1)) < (a0.size : Int))))]) (by kernel_rfl) ?_
              refine gl_case 78 (b := (decide ((IntKind.wrap .i64 (y47 + 1)) < (a0.size : Int)))) (by kernel_rfl) (fun hc59 => ?_) (fun hc59 => ?_)
              · have hj50 := cond_t hc59 hj50
                refine gl_pure 3 [0, 1, 6, 68, 72, 78, 79, 81] (K' := [(0, .string a0), (1, .int .i64 a1), (6, .int .i64 y47), (68, .bool true), (72, .bool false), (78, .bool true), (79, .string a0), (81, .int .i64 (IntKind.wrap .i64 (y47 + 1)))]) (by kernel_rfl) ?_
                obtain ⟨c60, hx61, hj50⟩ := bind_some hj50
                refine gl_index' (T' := 9) (xs := (.tmp 79)) (xi := (.tmp 81)) (kd := .i64) hx61 (by kernel_rfl) (by kernel_rfl) (by kernel_rfl) (by kernel_rfl) (by kernel_rfl) ?_
                refine gl_callQ (by kernel_rfl) (tocsinref13_digit_walk (r := (tocsinref13_digit c60))  rfl _) ?_
                refine gl_pure 3 [0, 1, 6, 86] (K' := [(0, .string a0), (1, .int .i64 a1), (6, .int .i64 y47), (86, .bool (tocsinref13_digit c60))]) (by kernel_rfl) ?_
                refine gl_atE (by kernel_rfl) ?_
                obtain rfl := some_inj hj50
                exact ge_mid fun t ht => ⟨(Imm.refl _), rfl, ht.pick (l := [0, 1, 6, 86]) (by kernel_rfl)⟩
              · have hj50 := cond_f hc59 hj50
                refine gl_pure 8 [0, 1, 6, 86] (K' := [(0, .string a0), (1, .int .i64 a1), (6, .int .i64 y47), (86, .bool false)]) (by kernel_rfl) ?_
                refine gl_atE (by kernel_rfl) ?_
                obtain rfl := some_inj hj50
                exact ge_mid fun t ht => ⟨(Imm.refl _), rfl, ht.pick (l := [0, 1, 6, 86]) (by kernel_rfl)⟩
          · have hj50 := cond_f hc57 hj50
            refine gl_pure 18 [0, 1, 6, 86] (K' := [(0, .string a0), (1, .int .i64 a1), (6, .int .i64 y47), (86, .bool false)]) (by kernel_rfl) ?_
            refine gl_atE (by kernel_rfl) ?_
            obtain rfl := some_inj hj50
            exact ge_mid fun t ht => ⟨(Imm.refl _), rfl, ht.pick (l := [0, 1, 6, 86]) (by kernel_rfl)⟩
        · have hj50 := cond_f hc54 hj50
          refine gl_pure 24 [0, 1, 6, 86] (K' := [(0, .string a0), (1, .int .i64 a1), (6, .int .i64 y47), (86, .bool false)]) (by kernel_rfl) ?_
          refine gl_atE (by kernel_rfl) ?_
          obtain rfl := some_inj hj50
          exact ge_mid fun t ht => ⟨(Imm.refl _), rfl, ht.pick (l := [0, 1, 6, 86]) (by kernel_rfl)⟩
      · rintro t I53 L' ⟨hI51, rfl, hK52⟩
        refine ge_at hK52 ?_
        refine ge_seq ?_
        obtain ⟨j62, hj63, hr⟩ := bind_some hr
        refine gk_join (fun t I' L' => I53 ≤ I' ∧ L = L' ∧ Knows 141 [(0, .string a0), (1, .int .i64 a1), (6, .int .i64 j62)] t) ?_ ?_
        · refine gk_cond (b := j49) (by kernel_rfl) (by kernel_rfl) (fun hc67 => ?_) (fun hc67 => ?_)
          · have hj63 := cond_t hc67 hj63
            refine gk_region (by kernel_rfl) ?_
            refine gl_pure 3 [0, 1, 87, 89] (K' := [(0, .string a0), (1, .int .i64 a1), (87, .string a0), (89, .int .i64 (IntKind.wrap .i64 (y47 + 1)))]) (by kernel_rfl) ?_
            obtain ⟨y68, hx69, hj63⟩ := bind_some hj63
            refine gl_callQ (by kernel_rfl) (tocsinref13_run_walk (r := y68)  hx69 _) ?_
            refine gl_pure 1 [0, 1, 6] (K' := [(0, .string a0), (1, .int .i64 a1), (6, .int .i64 y68)]) (by kernel_rfl) ?_
            refine gl_atE (by kernel_rfl) ?_
            obtain rfl := some_inj hj63
            exact ge_mid fun t ht => ⟨(Imm.refl _), rfl, ht.pick (l := [0, 1, 6]) (by kernel_rfl)⟩
          · have hj63 := cond_f hc67 hj63
            refine gk_skip (by kernel_rfl) ?_
            obtain rfl := some_inj hj63
            exact ge_mid fun t ht => ⟨(Imm.refl _), rfl, ht.pick (l := [0, 1, 6]) (by kernel_rfl)⟩
        · rintro t I66 L' ⟨hI64, rfl, hK65⟩
          refine ge_at hK65 ?_
          refine ge_seq ?_
          refine gk_seq (by kernel_rfl) ?_
          refine gk_seq (by kernel_rfl) ?_
          refine gk_region (by kernel_rfl) ?_
          refine gl_pure 3 [0, 1, 6, 93] (K' := [(0, .string a0), (1, .int .i64 a1), (6, .int .i64 j62), (93, .bool (j62 == a1))]) (by kernel_rfl) ?_
          refine gl_atE (by kernel_rfl) ?_
          refine ge_seq ?_
          refine gk_cond (b := (j62 == a1)) (by kernel_rfl) (by kernel_rfl) (fun hc70 => ?_) (fun hc70 => ?_)
          · have hr := cond_t hc70 hr
            refine gk_seq (by kernel_rfl) ?_
            refine gk_region (by kernel_rfl) ?_
            refine gl_pure 2 [4] (K' := [(4, .int .i64 a1)]) (by kernel_rfl) ?_
            refine gl_atE (by kernel_rfl) ?_
            refine ge_seq ?_
            refine gk_ret (by kernel_rfl) ?_
            refine ge_seq_ret ?_
            obtain rfl := some_inj hr
            exact ge_result trivial (ResOk.tmp (by kernel_rfl) ResOk.nil) (Imm.trans (Imm.trans hI3 hI51) hI64) ⟨rfl, rfl⟩
          · have hr := cond_f hc70 hr
            refine gk_skip (by kernel_rfl) ?_
            refine ge_seq ?_
            refine gk_seq (by kernel_rfl) ?_
            refine gk_region (by kernel_rfl) ?_
            refine gl_pure 2 [0, 6, 7] (K' := [(0, .string a0), (6, .int .i64 j62), (7, .int .i64 j62)]) (by kernel_rfl) ?_
            refine gl_atE (by kernel_rfl) ?_
            refine ge_seq ?_
            refine gk_seq (by kernel_rfl) ?_
            refine gk_seq (by kernel_rfl) ?_
            obtain ⟨j71, hj72, hr⟩ := bind_some hr
            refine gk_join (fun t I' L' => I66 ≤ I' ∧ L = L' ∧ Knows 141 [(0, .string a0), (6, .int .i64 j62), (7, .int .i64 j62), (111, .bool j71)] t) ?_ ?_
            · refine gk_region (by kernel_rfl) ?_
              refine gl_pure 5 [0, 6, 7, 100] (K' := [(0, .string a0), (6, .int .i64 j62), (7, .int .i64 j62), (100, .bool (decide (j62 < (a0.size : Int))))]) (by kernel_rfl) ?_
              refine gl_case 100 (b := (decide (j62 < (a0.size : Int)))) (by kernel_rfl) (fun hc76 => ?_) (fun hc76 => ?_)
              · have hj72 := cond_t hc76 hj72
                refine gl_pure 2 [0, 6, 7, 100, 101, 102] (K' := [(0, .string a0), (6, .int .i64 j62), (7, .int .i64 j62), (100, .bool true), (101, .string a0), (102, .int .i64 j62)]) (by kernel_rfl) ?_
                obtain ⟨c77, hx78, hj72⟩ := bind_some hj72
                refine gl_index' (T' := 9) (xs := (.tmp 101)) (xi := (.tmp 102)) (kd := .i64) hx78 (by kernel_rfl) (by kernel_rfl) (by kernel_rfl) (by kernel_rfl) (by kernel_rfl) ?_
                refine gl_pure 2 [0, 6, 7, 100, 105] (K' := [(0, .string a0), (6, .int .i64 j62), (7, .int .i64 j62), (100, .bool true), (105, .bool (c77 == 101))]) (by kernel_rfl) ?_
                refine gl_case 105 (b := (c77 == 101)) (by kernel_rfl) (fun hc79 => ?_) (fun hc79 => ?_)
                · have hj72 := cond_t hc79 hj72
                  refine gl_pure 6 [0, 6, 7, 111] (K' := [(0, .string a0), (6, .int .i64 j62), (7, .int .i64 j62), (111, .bool true)]) (by kernel_rfl) ?_
                  refine gl_atE (by kernel_rfl) ?_
                  obtain rfl := some_inj hj72
                  exact ge_mid fun t ht => ⟨(Imm.refl _), rfl, ht.pick (l := [0, 6, 7, 111]) (by kernel_rfl)⟩
                · have hj72 := cond_f hc79 hj72
                  refine gl_pure 2 [0, 6, 7, 100, 105, 106, 107] (K' := [(0, .string a0), (6, .int .i64 j62), (7, .int .i64 j62), (100, .bool true), (105, .bool false), (106, .string a0), (107, .int .i64 j62)]) (by kernel_rfl) ?_
                  obtain ⟨c80, hx81, hj72⟩ := bind_some hj72
                  refine gl_index' (T' := 9) (xs := (.tmp 106)) (xi := (.tmp 107)) (kd := .i64) hx81 (by kernel_rfl) (by kernel_rfl) (by kernel_rfl) (by kernel_rfl) (by kernel_rfl) ?_
                  refine gl_pure 3 [0, 6, 7, 111] (K' := [(0, .string a0), (6, .int .i64 j62), (7, .int .i64 j62), (111, .bool (c80 == 69))]) (by kernel_rfl) ?_
                  refine gl_atE (by kernel_rfl) ?_
                  obtain rfl := some_inj hj72
                  exact ge_mid fun t ht => ⟨(Imm.refl _), rfl, ht.pick (l := [0, 6, 7, 111]) (by kernel_rfl)⟩
              · have hj72 := cond_f hc76 hj72
                refine gl_pure 11 [0, 6, 7, 111] (K' := [(0, .string a0), (6, .int .i64 j62), (7, .int .i64 j62), (111, .bool false)]) (by kernel_rfl) ?_
                refine gl_atE (by kernel_rfl) ?_
                obtain rfl := some_inj hj72
                exact ge_mid fun t ht => ⟨(Imm.refl _), rfl, ht.pick (l := [0, 6, 7, 111]) (by kernel_rfl)⟩
            · rintro t I75 L' ⟨hI73, rfl, hK74⟩
              refine ge_at hK74 ?_
              refine ge_seq ?_
              obtain ⟨j82, hj83, hr⟩ := bind_some hr
              refine gk_join (fun t I' L' => ∃ j84, j82 = Sum.inl j84 ∧ I75 ≤ I' ∧ L = L' ∧ Knows 141 [(6, .int .i64 j62)] t) ?_ ?_
              · refine gk_cond (b := j71) (by kernel_rfl) (by kernel_rfl) (fun hc88 => ?_) (fun hc88 => ?_)
                · have hj83 := cond_t hc88 hj83
                  refine gk_seq (by kernel_rfl) ?_
                  refine gk_region (by kernel_rfl) ?_
                  refine gl_pure 3 [0, 6, 7] (K' := [(0, .string a0), (6, .int .i64 j62), (7, .int .i64 (IntKind.wrap .i64 (j62 + 1)))]) (by kernel_rfl) ?_
                  refine gl_atE (by kernel_rfl) ?_
                  refine ge_seq ?_
                  refine gk_seq (by kernel_rfl) ?_
                  refine gk_seq (by kernel_rfl) ?_
                  obtain ⟨j89, hj90, hj83⟩ := bind_some hj83
                  refine gk_join (fun t I' L' => I75 ≤ I' ∧ L = L' ∧ Knows 141 [(0, .string a0), (6, .int .i64 j62), (7, .int .i64 (IntKind.wrap .i64 (j62 + 1))), (129, .bool j89)] t) ?_ ?_
                  · refine gk_region (by kernel_rfl) ?_
                    refine gl_pure 5 [0, 6, 7, 118] (K' := [(0, .string a0), (6, .int .i64 j62), (7, .int .i64 (IntKind.wrap .i64 (j62 + 1))), (118, .bool (decide ((IntKind.wrap .i64 (j62 + 1)) < (a0.size : Int))))]) (by kernel_rfl) ?_
                    refine gl_case 118 (b := (decide ((IntKind.wrap .i64 (j62 + 1)) < (a0.size : Int)))) (by kernel_rfl) (fun hc94 => ?_) (fun hc94 => ?_)
                    · have hj90 := cond_t hc94 hj90
                      refine gl_pure 2 [0, 6, 7, 118, 119, 120] (K' := [(0, .string a0), (6, .int .i64 j62), (7, .int .i64 (IntKind.wrap .i64 (j62 + 1))), (118, .bool true), (119, .string a0), (120, .int .i64 (IntKind.wrap .i64 (j62 + 1)))]) (by kernel_rfl) ?_
                      obtain ⟨c95, hx96, hj90⟩ := bind_some hj90
                      refine gl_index' (T' := 9) (xs := (.tmp 119)) (xi := (.tmp 120)) (kd := .i64) hx96 (by kernel_rfl) (by kernel_rfl) (by kernel_rfl) (by kernel_rfl) (by kernel_rfl) ?_
                      refine gl_pure 2 [0, 6, 7, 118, 123] (K' := [(0, .string a0), (6, .int .i64 j62), (7, .int .i64 (IntKind.wrap .i64 (j62 + 1))), (118, .bool true), (123, .bool (c95 == 43))]) (by kernel_rfl) ?_
                      refine gl_case 123 (b := (c95 == 43)) (by kernel_rfl) (fun hc97 => ?_) (fun hc97 => ?_)
                      · have hj90 := cond_t hc97 hj90
                        refine gl_pure 6 [0, 6, 7, 129] (K' := [(0, .string a0), (6, .int .i64 j62), (7, .int .i64 (IntKind.wrap .i64 (j62 + 1))), (129, .bool true)]) (by kernel_rfl) ?_
                        refine gl_atE (by kernel_rfl) ?_
                        obtain rfl := some_inj hj90
                        exact ge_mid fun t ht => ⟨(Imm.refl _), rfl, ht.pick (l := [0, 6, 7, 129]) (by kernel_rfl)⟩
                      · have hj90 := cond_f hc97 hj90
                        refine gl_pure 2 [0, 6, 7, 118, 123, 124, 125] (K' := [(0, .string a0), (6, .int .i64 j62), (7, .int .i64 (IntKind.wrap .i64 (j62 + 1))), (118, .bool true), (123, .bool false), (124, .string a0), (125, .int .i64 (IntKind.wrap .i64 (j62 + 1)))]) (by kernel_rfl) ?_
                        obtain ⟨c98, hx99, hj90⟩ := bind_some hj90
                        refine gl_index' (T' := 9) (xs := (.tmp 124)) (xi := (.tmp 125)) (kd := .i64) hx99 (by kernel_rfl) (by kernel_rfl) (by kernel_rfl) (by kernel_rfl) (by kernel_rfl) ?_
                        refine gl_pure 3 [0, 6, 7, 129] (K' := [(0, .string a0), (6, .int .i64 j62), (7, .int .i64 (IntKind.wrap .i64 (j62 + 1))), (129, .bool (c98 == 45))]) (by kernel_rfl) ?_
                        refine gl_atE (by kernel_rfl) ?_
                        obtain rfl := some_inj hj90
                        exact ge_mid fun t ht => ⟨(Imm.refl _), rfl, ht.pick (l := [0, 6, 7, 129]) (by kernel_rfl)⟩
                    · have hj90 := cond_f hc94 hj90
                      refine gl_pure 11 [0, 6, 7, 129] (K' := [(0, .string a0), (6, .int .i64 j62), (7, .int .i64 (IntKind.wrap .i64 (j62 + 1))), (129, .bool false)]) (by kernel_rfl) ?_
                      refine gl_atE (by kernel_rfl) ?_
                      obtain rfl := some_inj hj90
                      exact ge_mid fun t ht => ⟨(Imm.refl _), rfl, ht.pick (l := [0, 6, 7, 129]) (by kernel_rfl)⟩
                  · rintro t I93 L' ⟨hI91, rfl, hK92⟩
                    refine ge_at hK92 ?_
                    refine ge_seq ?_
                    obtain ⟨j100, hj101, hj83⟩ := bind_some hj83
                    refine gk_join (fun t I' L' => I93 ≤ I' ∧ L = L' ∧ Knows 141 [(0, .string a0), (6, .int .i64 j62), (7, .int .i64 j100)] t) ?_ ?_
                    · refine gk_cond (b := j89) (by kernel_rfl) (by kernel_rfl) (fun hc105 => ?_) (fun hc105 => ?_)
                      · have hj101 := cond_t hc105 hj101
                        refine gk_region (by kernel_rfl) ?_
                        refine gl_pure 3 [0, 6, 7] (K' := [(0, .string a0), (6, .int .i64 j62), (7, .int .i64 (IntKind.wrap .i64 ((IntKind.wrap .i64 (j62 + 1)) + 1)))]) (by kernel_rfl) ?_
                        refine gl_atE (by kernel_rfl) ?_
                        obtain rfl := some_inj hj101
                        exact ge_mid fun t ht => ⟨(Imm.refl _), rfl, ht.pick (l := [0, 6, 7]) (by kernel_rfl)⟩
                      · have hj101 := cond_f hc105 hj101
                        refine gk_skip (by kernel_rfl) ?_
                        obtain rfl := some_inj hj101
                        exact ge_mid fun t ht => ⟨(Imm.refl _), rfl, ht.pick (l := [0, 6, 7]) (by kernel_rfl)⟩
                    · rintro t I104 L' ⟨hI102, rfl, hK103⟩
                      refine ge_at hK103 ?_
                      refine ge_seq ?_
                      refine gk_seq (by kernel_rfl) ?_
                      refine gk_region (by kernel_rfl) ?_
                      refine gl_pure 2 [0, 6, 7, 132, 133] (K' := [(0, .string a0), (6, .int .i64 j62), (7, .int .i64 j100), (132, .string a0), (133, .int .i64 j100)]) (by kernel_rfl) ?_
                      obtain ⟨y106, hx107, hj83⟩ := bind_some hj83
                      refine gl_callQ (by kernel_rfl) (tocsinref13_run_walk (r := y106)  hx107 _) ?_
                      refine gl_pure 2 [0, 6, 7, 136] (K' := [(0, .string a0), (6, .int .i64 j62), (7, .int .i64 j100), (136, .bool (decide (y106 > j100)))]) (by kernel_rfl) ?_
                      refine gl_atE (by kernel_rfl) ?_
                      refine ge_seq ?_
                      refine gk_cond (b := (decide (y106 > j100))) (by kernel_rfl) (by kernel_rfl) (fun hc108 => ?_) (fun hc108 => ?_)
                      · have hj83 := cond_t hc108 hj83
                        refine gk_seq (by kernel_rfl) ?_
                        refine gk_region (by kernel_rfl) ?_
                        refine gl_pure 2 [137, 138] (K' := [(137, .string a0), (138, .int .i64 j100)]) (by kernel_rfl) ?_
                        obtain ⟨y109, hx110, hj83⟩ := bind_some hj83
                        refine gl_callQ (by kernel_rfl) (tocsinref13_run_walk (r := y109)  hx110 _) ?_
                        refine gl_pure 1 [4] (K' := [(4, .int .i64 y109)]) (by kernel_rfl) ?_
                        refine gl_atE (by kernel_rfl) ?_
                        refine ge_seq ?_
                        refine gk_ret (by kernel_rfl) ?_
                        refine ge_seq_ret ?_
                        obtain rfl := some_inj hj83
                        refine ge_seq_ret ?_
                        obtain rfl := some_inj hr
                        exact ge_result trivial (ResOk.tmp (by kernel_rfl) ResOk.nil) (Imm.trans (Imm.trans (Imm.trans (Imm.trans (Imm.trans hI3 hI51) hI64) hI73) hI91) hI102) ⟨rfl, rfl⟩
                      · have hj83 := cond_f hc108 hj83
                        refine gk_skip (by kernel_rfl) ?_
                        obtain rfl := some_inj hj83
                        exact ge_mid fun t ht => ⟨_, rfl, (Imm.trans hI91 hI102), rfl, ht.pick (l := [6]) (by kernel_rfl)⟩
                · have hj83 := cond_f hc88 hj83
                  refine gk_skip (by kernel_rfl) ?_
                  obtain rfl := some_inj hj83
                  exact ge_mid fun t ht => ⟨_, rfl, (Imm.refl _), rfl, ht.pick (l := [6]) (by kernel_rfl)⟩
              · rintro t I87 L' ⟨j84, rfl, hI85, rfl, hK86⟩
                refine ge_at hK86 ?_
                refine ge_seq ?_
                refine gk_seq (by kernel_rfl) ?_
                refine gk_region (by kernel_rfl) ?_
                refine gl_pure 2 [4] (K' := [(4, .int .i64 j62)]) (by kernel_rfl) ?_
                refine gl_atE (by kernel_rfl) ?_
                refine ge_seq ?_
                refine gk_ret (by kernel_rfl) ?_
                obtain rfl := some_inj hr
                exact ge_result trivial (ResOk.tmp (by kernel_rfl) ResOk.nil) (Imm.trans (Imm.trans (Imm.trans (Imm.trans hI3 hI51) hI64) hI73) hI85) ⟨rfl, rfl⟩
structure S93 where
  f0 : ByteArray
  f1 : Int
def kS93 : Kd S93 := Kd.iso (Kd.pair Kd.str (Kd.int .i64)) (fun x => (x.f0, x.f1))
theorem kS93_open {I : Imm} {x : S93} {cs : List Value} (h : kS93.R I x cs) : cs = [.string x.f0, .int .i64 x.f1] := by
  obtain ⟨_, _, rfl, h_0, h_1⟩ := h
  obtain rfl := h_0
  obtain rfl := h_1
  exact rfl
theorem kS93_mk {I : Imm} {x : S93}   : kS93.R I x [.string x.f0, .int .i64 x.f1] :=
  ⟨[.string x.f0], [.int .i64 x.f1], rfl, rfl, rfl⟩
end Go.Proofs.YtlhpclfkoblnkaaDoor
